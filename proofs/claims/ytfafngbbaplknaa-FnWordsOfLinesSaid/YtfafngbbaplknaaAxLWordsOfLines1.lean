/- Contracts that the statement FnWordsOfLines reaches, part 1. No conditions. -/
import Derived.Test.YtfafngbbaplknaaAxO
import Derived.Test.YtfafngbbaplknaaShelf
import Derived.Test.YtfafngbbaplknaaAxR
import Derived.Test.YtfafngbbaplknaaAxRS
import Derived.Test.YtfafngbbaplknaaAxS
import Derived.Test.YtfafngbbaplknaaAxY
namespace Go.Proofs.Ytfafngbbaplknaa.Ax
open Go.RowKit Go.ChangeShapes Go.WideShapes
set_option linter.unusedVariables false
set_option linter.unusedSimpArgs false
def cU8 (x:Int):List AV:=[.val (.int .u8 x)]
def fU8 (xs:List Int) (i:Nat):List AV:=cU8 (at_ xs i)
def Zii (fr:Bool) (xs:List Int):AV:= .sl fr 1 xs.length (fU8 xs)
theorem tagcU8 (t:Bool) (x:Int):Zag t (cU8 x):=by simp [cU8,Zag,Zah]
theorem Zct (t:Bool) (xs:List Int):Zah t (Zii t xs):=by simp only [Zii,Zah];exact ⟨trivial,fun i _=>tagcU8 t _⟩
def cI (x:Int):List AV:=[I x]
def fI (xs:List Int) (i:Nat):List AV:=cI (at_ xs i)
def slI (fr:Bool) (xs:List Int):AV:= .sl fr 1 xs.length (fI xs)
theorem Zrg (t:Bool) (x:Int):Zag t (cI x):=by simp [cI,Zag,Zah]
theorem Zft (t:Bool) (xs:List Int):Zah t (slI t xs):=by simp only [slI,Zah];exact ⟨trivial,fun i _=>Zrg t _⟩
abbrev tAI (xs:List Int):Ob:= .arr 1 xs.length (fI xs)
structure Box where
 X1:Int
 Y1:Int
 X2:Int
 Y2:Int
deriving DecidableEq,Inhabited
def Znw (x:Box):List AV:=[I x.X1,I x.Y1,I x.X2,I x.Y2]
def Zdr (xs:List Box) (i:Nat):List AV:=Znw (at_ xs i)
def Zae (fr:Bool) (xs:List Box):AV:= .sl fr 4 xs.length (Zdr xs)
theorem tagcBox (t:Bool) (x:Box):Zag t (Znw x):=by simp [Znw,Zag,Zah]
theorem Zbo (t:Bool) (xs:List Box):Zah t (Zae t xs):=by simp only [Zae,Zah];exact ⟨trivial,fun i _=>tagcBox t _⟩
abbrev Zhf (x:Box):Ob:= .box [I x.X1,I x.Y1,I x.X2,I x.Y2]
abbrev Zkl (x:Box):AV:= .agg [I x.X1,I x.Y1,I x.X2,I x.Y2]
abbrev Zjj (xs:List Box):Ob:= .arr 4 xs.length (Zdr xs)
def cLU8 (fr:Bool) (x:List Int):List AV:=[Zii fr x]
structure l00Src where
 code:List Int
 atx:Int
 seed:Int
deriving DecidableEq,Inhabited
abbrev Zaa (x:l00Src):Ob:= .box [Zii false x.code,I x.atx,.val (.int .u64 x.seed)]
def cLI (fr:Bool) (x:List Int):List AV:=[slI fr x]
def fLI (fr:Bool) (xs:List (List Int)) (i:Nat):List AV:=cLI fr (at_ xs i)
def Zcx (fr:Bool) (xs:List (List Int)):AV:= .sl fr 1 xs.length (fLI fr xs)
theorem tagcLI (t:Bool) (x:List Int):Zag t (cLI t x):=by simp [cLI,Zag,Zah,Zft]
theorem Zgl (t:Bool) (xs:List (List Int)):Zah t (Zcx t xs):=by simp only [Zcx,Zah];exact ⟨trivial,fun i _=>tagcLI t _⟩
theorem idsLI (fr:Bool) (x:List Int):AV.idsL (cLI fr x)=[]:=rfl
theorem leLI (fr:Bool) (x:List Int) (ob:Nat→Option Ob):leL ob false (cLI fr x) (cLI false x):=(And.intro (And.intro (fun h=>by cases h) (And.intro rfl (And.intro rfl (fun i _=> .inl rfl)))) rfl)
abbrev Zvy (fr:Bool) (xs:List (List Int)):Ob:= .arr 1 xs.length (fLI fr xs)
structure Line where
 Top:Int
 Bottom:Int
 Items:List Int
deriving DecidableEq,Inhabited
def Zif (fr:Bool) (x:Line):List AV:=[I x.Top,I x.Bottom,slI fr x.Items]
def Zfu (fr:Bool) (xs:List Line) (i:Nat):List AV:=Zif fr (at_ xs i)
def Zga (fr:Bool) (xs:List Line):AV:= .sl fr 3 xs.length (Zfu fr xs)
theorem tagcLine (t:Bool) (x:Line):Zag t (Zif t x):=by simp [Zif,Zag,Zah,Zft]
theorem tagLine (t:Bool) (xs:List Line):Zah t (Zga t xs):=by simp only [Zga,Zah];exact ⟨trivial,fun i _=>tagcLine t _⟩
abbrev Zyo (x:Line):Ob:= .box [I x.Top,I x.Bottom,slI true x.Items]
abbrev Zdj (fr:Bool) (xs:List Line):Ob:= .arr 3 xs.length (Zfu fr xs)
theorem Zte (code:List Int):Con Try.prog 5 [Zii false code] true (Bv (decide (4096<(code.length:Int)))):=by
 refine Zda (fn:=Try.f5) (nt:=6) Try.func5 rfl rfl rfl rfl (by simp [Zag,Zah,Zct]) fun B hB=> ?_
 refine Zbt (x:=Zii false code) 0 rfl (fun len_code=> ?_)
 simp [Zdb,Zfv,cU8,fU8,Zii] at len_code
 refine aQ [] [0] [] [] hB trivial ?_
 refine aR [] [2] [] [Bv (decide (4096<(code.length:Int)))] [] [] hB trivial (Zaz ?_)
 refine Zax hB (Bv (decide (4096<(code.length:Int)))) (by kernel_rfl) (.inl rfl) rfl (fun _=>trivial)
def same {α:Type} [DecidableEq α] (x y:α):Bool:=decide (x=y)
theorem ext_at {α:Type} [Inhabited α] {xs ys:List α} (hl:xs.length=ys.length) (h:∀j:Nat,j<xs.length→at_ xs j=at_ ys j):xs=ys:=by
 apply List.ext_getElem hl
 intro i h1 h2
 rw [←Zee h1,←Zee h2]
 exact h i h1
theorem Zbj {α:Type} [Inhabited α] {xs:List α} {i:Nat} (h:i<xs.length):at_ xs i∈xs:=by rw [Zee h];exact List.getElem_mem h
def Zpy (n:Nat) (p:Nat→Bool):Bool:=(List.range n).all p
def Zsy (n:Nat) (p:Nat→Bool):Bool:= !(Zpy n fun j=> !(p j))
theorem Zla {n:Nat} {p:Nat→Bool} :Zpy n p=true↔∀j,j<n→p j=true:=by simp [Zpy,List.all_eq_true]
theorem Zhh {n:Nat} {p:Nat→Bool} (h:∀j,j<n→p j=true):Zpy n p=true:=Zla.2 h
theorem Zkz {n:Nat} {p:Nat→Bool} (h:Zpy n p=true) {k:Nat} (hk:k<n):p k=true:=Zla.1 h k hk
theorem Zgm {n:Nat} {p:Nat→Bool} {k:Nat} (hk:k<n) (h:p k=false):Zpy n p=false:=by
 rw [←Bool.not_eq_true,Zla];intro h';rw [h' k hk] at h;cases h
theorem Zps (n:Nat) (p:Nat→Bool):Zsy n (fun j=> !(p j))= !(Zpy n p):=by simp [Zsy]
theorem anyN_at {n:Nat} {p:Nat→Bool} {k:Nat} (hk:k<n) (h:p k=true):Zsy n p=true:=by
 unfold Zsy;rw [Zgm hk (by simp [h])];rfl
theorem Zyz {n:Nat} {p:Nat→Bool} (h:∀j,j<n→p j=false):Zsy n p=false:=by
 unfold Zsy;rw [Zhh (fun j hj=>by simp [h j hj])];rfl
def Zba (s:l00Src):Prop:=(∀j,j<s.code.length→0≤at_ s.code j∧at_ s.code j≤255)∧0≤s.atx∧s.code.length≤4611686018427387904
theorem Zza (a:Int):0≤Zfs .and .u64 a 255∧Zfs .and .u64 a 255≤255:=by
 obtain ⟨n,hn⟩:∃n:Nat,n=(BitVec.ofInt 64 a&&&BitVec.ofInt 64 255).toNat:=⟨_,rfl⟩
 have h:n≤255:=by rw [hn,BitVec.toNat_and];exact Nat.and_le_right
 have e:Zfs .and .u64 a 255=IntKind.u64.wrap (n:Int):=by rw [hn];rfl
 have w:IntKind.u64.wrap (n:Int)=n:=Zgg (Zfr om om)
 rw [e,w];omega
theorem Zny (code:List Int):∃(s':l00Src),(s'.code=code∧s'.atx=0)∧Zao Try.prog 29 [Zii false code] (Zab []) false (.ref 7001 0) (Zab [(7001,Zaa s')]):=by
 have hh:∃r:l00Src,((r.code=code∧r.atx=0)∧(True))∧Zao Try.prog 29 [Zii false code] (Zab []) false (.ref 7001 0) (Zab [(7001,Zaa r)]):=by
  refine Zcp (Φ:=fun r:l00Src=>(r.code=code∧r.atx=0)∧(True)) [] (fun r=>[(7001,Zaa r)]) (fn:=Try.f29) (nt:=6) Try.func29 rfl rfl (args:=[Zii false code]) rfl (Zap (.inl ⟨rfl,Zct false _⟩) Zco) (res:=fun r=> .ref 7001 0) ?_
  refine xQ [] [0] [] [] trivial ?_
  refine xR [(2,.new 7001)] [2] [7001] [.ref 7001 0] [some (.box [Zii false code,I 0,.val (.int .u64 0)])] [] trivial (Zby ?_)
  refine Zbd (l00Src.mk code 0 0) (show ((l00Src.mk code 0 0).code=code∧(l00Src.mk code 0 0).atx=0)∧(True) from ⟨(by first|rfl|(exact ⟨rfl,rfl⟩)),trivial⟩) (⟨.inl rfl,trivial⟩) (.ref 7001 0) (by kernel_rfl) (.inl rfl) (fun h=>by cases h) (fun h=>by cases h)
 obtain ⟨s',⟨hh0,_⟩,hc⟩:=hh
 exact ⟨s',hh0,hc⟩
theorem Zzb (s:l00Src) (hs:Zba s) (ha:s.atx≤4000000000000000000):∃(v:Int) (s':l00Src),(0≤v∧v≤255)∧(Zba s')∧(s'.code=s.code)∧(s.atx+1≤s'.atx∧s'.atx≤s.atx+1)∧Zao Try.prog 71 [.ref 7001 0] (Zab [(7001,Zaa s)]) true (I v) (Zab [(7001,Zaa s')]):=by
  have hs0:=hs.2.1
  have hs1:=hs.2.2
  have hh:∃r:Int×l00Src,((0≤r.1∧r.1≤255)∧(Zba r.2)∧(r.2.code=s.code)∧(s.atx+1≤r.2.atx∧r.2.atx≤s.atx+1)∧(True))∧Zao Try.prog 71 [.ref 7001 0] (Zab [(7001,Zaa s)]) true (I r.1) (Zab [(7001,Zaa r.2)]):=by
    refine Zcp (Φ:=fun r:Int×l00Src=>(0≤r.1∧r.1≤255)∧(Zba r.2)∧(r.2.code=s.code)∧(s.atx+1≤r.2.atx∧r.2.atx≤s.atx+1)∧(True)) [(7001,Zaa s)] (fun r=>[(7001,Zaa r.2)]) (fn:=Try.f71) (nt:=62) Try.func71 rfl rfl (args:=[.ref 7001 0]) rfl (Zap (.inr trivial) Zco) (res:=fun r=>I r.1) ?_
    refine xQ [] [0] [7001] [] trivial ?_
    refine xQ [] [0,3] [7001] [] trivial (Zam (Zam ?_))
    by_cases h1:s.atx<(s.code.length:Int)
    ·have hbt:=hs.1 s.atx.toNat om
     refine x_q [(9,.dec true)] [0,3,13] [7001] [_] ⟨h1,trivial⟩ (Zac (Zel ?_))
     refine x_r [] [0,3] [7001] [.ref 7001 0,I (at_ s.code s.atx.toNat)] [some (Zaa s)] [(0:Int)≤s.atx∧s.atx<(s.code.length:Int),inR .i64 (at_ s.code s.atx.toNat)] ⟨⟨om,om⟩,(Zaf om om),trivial⟩ (Zac ?_)
     refine xQ [] [0,3] [7001] [inR .i64 (s.atx+1)] ⟨(Zaf om om),trivial⟩ ?_
     refine xQ [(5,.wrap),(8,.wrap),(9,.wrap)] [0,3] [7001] [inR .u64 (at_ s.code s.atx.toNat)] ⟨(Zfr om om),trivial⟩ (Zam (Zam ?_))
     by_cases h2:(s.atx+1)≤(s.code.length:Int)
     ·refine x_q [(9,.dec true)] [0,3,53] [7001] [_] ⟨h2,trivial⟩ (Zac (Zel ?_))
      refine xR [] [2] [7001] [I (at_ s.code s.atx.toNat)] [some (.box [Zii false s.code,I (s.atx+1),.val (.int .u64 (IntKind.u64.wrap ((IntKind.u64.wrap ((IntKind.u64.wrap (s.seed*6364136223846793005))+(at_ s.code s.atx.toNat)))+1442695040888963407)))])] [] trivial (Zby (Zbc ?_))
      refine Zbd ((at_ s.code s.atx.toNat),(l00Src.mk s.code (s.atx+1) (IntKind.u64.wrap ((IntKind.u64.wrap ((IntKind.u64.wrap (s.seed*6364136223846793005))+(at_ s.code s.atx.toNat)))+1442695040888963407)))) (show (0≤(at_ s.code s.atx.toNat)∧(at_ s.code s.atx.toNat)≤255)∧(Zba (l00Src.mk s.code (s.atx+1) (IntKind.u64.wrap ((IntKind.u64.wrap ((IntKind.u64.wrap (s.seed*6364136223846793005))+(at_ s.code s.atx.toNat)))+1442695040888963407))))∧((l00Src.mk s.code (s.atx+1) (IntKind.u64.wrap ((IntKind.u64.wrap ((IntKind.u64.wrap (s.seed*6364136223846793005))+(at_ s.code s.atx.toNat)))+1442695040888963407))).code=s.code)∧(s.atx+1≤(l00Src.mk s.code (s.atx+1) (IntKind.u64.wrap ((IntKind.u64.wrap ((IntKind.u64.wrap (s.seed*6364136223846793005))+(at_ s.code s.atx.toNat)))+1442695040888963407))).atx∧(l00Src.mk s.code (s.atx+1) (IntKind.u64.wrap ((IntKind.u64.wrap ((IntKind.u64.wrap (s.seed*6364136223846793005))+(at_ s.code s.atx.toNat)))+1442695040888963407))).atx≤s.atx+1)∧(True) from ⟨(by first|omega|rfl|assumption|(dsimp only;first|omega|rfl|assumption)|(simp only [*];done)|exact ⟨hs.1,(by dsimp only;omega),hs1⟩),(by first|omega|rfl|assumption|(dsimp only;first|omega|rfl|assumption)|(simp only [*];done)|exact ⟨hs.1,(by dsimp only;omega),hs1⟩),(by first|omega|rfl|assumption|(dsimp only;first|omega|rfl|assumption)|(simp only [*];done)|exact ⟨hs.1,(by dsimp only;omega),hs1⟩),(by first|omega|rfl|assumption|(dsimp only;first|omega|rfl|assumption)|(simp only [*];done)|exact ⟨hs.1,(by dsimp only;omega),hs1⟩),trivial⟩) (⟨.inl rfl,trivial⟩) (I (at_ s.code s.atx.toNat)) (by kernel_rfl) (.inl rfl) (fun _=>rfl) (fun _=>trivial)
     refine x_q [(9,.dec false)] [0,3,53] [7001] [_] ⟨h2,trivial⟩ (Zac (Zhn (Zbn (Zac (Zam ?_)))))
     have hb1:=Zza ((IntKind.u64.wrap ((IntKind.u64.wrap ((IntKind.u64.wrap (s.seed*6364136223846793005))+(at_ s.code s.atx.toNat)))+1442695040888963407))/1099511627776)
     refine x_r [] [2] [7001] [I (Zfs .and .u64 ((IntKind.u64.wrap ((IntKind.u64.wrap ((IntKind.u64.wrap (s.seed*6364136223846793005))+(at_ s.code s.atx.toNat)))+1442695040888963407))/1099511627776) 255)] [some (.box [Zii false s.code,I (s.atx+1),.val (.int .u64 (IntKind.u64.wrap ((IntKind.u64.wrap ((IntKind.u64.wrap (s.seed*6364136223846793005))+(at_ s.code s.atx.toNat)))+1442695040888963407)))])] [(0:Int)≤40∧(40:Int)≤((IntKind.bits .u64:Nat):Int),inR .i64 (Zfs .and .u64 ((IntKind.u64.wrap ((IntKind.u64.wrap ((IntKind.u64.wrap (s.seed*6364136223846793005))+(at_ s.code s.atx.toNat)))+1442695040888963407))/1099511627776) 255)] ⟨⟨(by decide),(by decide)⟩,(Zaf om om),trivial⟩ (Zac (Zby ?_))
     refine Zbd ((Zfs .and .u64 ((IntKind.u64.wrap ((IntKind.u64.wrap ((IntKind.u64.wrap (s.seed*6364136223846793005))+(at_ s.code s.atx.toNat)))+1442695040888963407))/1099511627776) 255),(l00Src.mk s.code (s.atx+1) (IntKind.u64.wrap ((IntKind.u64.wrap ((IntKind.u64.wrap (s.seed*6364136223846793005))+(at_ s.code s.atx.toNat)))+1442695040888963407)))) (show (0≤(Zfs .and .u64 ((IntKind.u64.wrap ((IntKind.u64.wrap ((IntKind.u64.wrap (s.seed*6364136223846793005))+(at_ s.code s.atx.toNat)))+1442695040888963407))/1099511627776) 255)∧(Zfs .and .u64 ((IntKind.u64.wrap ((IntKind.u64.wrap ((IntKind.u64.wrap (s.seed*6364136223846793005))+(at_ s.code s.atx.toNat)))+1442695040888963407))/1099511627776) 255)≤255)∧(Zba (l00Src.mk s.code (s.atx+1) (IntKind.u64.wrap ((IntKind.u64.wrap ((IntKind.u64.wrap (s.seed*6364136223846793005))+(at_ s.code s.atx.toNat)))+1442695040888963407))))∧((l00Src.mk s.code (s.atx+1) (IntKind.u64.wrap ((IntKind.u64.wrap ((IntKind.u64.wrap (s.seed*6364136223846793005))+(at_ s.code s.atx.toNat)))+1442695040888963407))).code=s.code)∧(s.atx+1≤(l00Src.mk s.code (s.atx+1) (IntKind.u64.wrap ((IntKind.u64.wrap ((IntKind.u64.wrap (s.seed*6364136223846793005))+(at_ s.code s.atx.toNat)))+1442695040888963407))).atx∧(l00Src.mk s.code (s.atx+1) (IntKind.u64.wrap ((IntKind.u64.wrap ((IntKind.u64.wrap (s.seed*6364136223846793005))+(at_ s.code s.atx.toNat)))+1442695040888963407))).atx≤s.atx+1)∧(True) from ⟨(by first|omega|rfl|assumption|(dsimp only;first|omega|rfl|assumption)|(simp only [*];done)|exact ⟨hs.1,(by dsimp only;omega),hs1⟩),(by first|omega|rfl|assumption|(dsimp only;first|omega|rfl|assumption)|(simp only [*];done)|exact ⟨hs.1,(by dsimp only;omega),hs1⟩),(by first|omega|rfl|assumption|(dsimp only;first|omega|rfl|assumption)|(simp only [*];done)|exact ⟨hs.1,(by dsimp only;omega),hs1⟩),(by first|omega|rfl|assumption|(dsimp only;first|omega|rfl|assumption)|(simp only [*];done)|exact ⟨hs.1,(by dsimp only;omega),hs1⟩),trivial⟩) (⟨.inl rfl,trivial⟩) (I (Zfs .and .u64 ((IntKind.u64.wrap ((IntKind.u64.wrap ((IntKind.u64.wrap (s.seed*6364136223846793005))+(at_ s.code s.atx.toNat)))+1442695040888963407))/1099511627776) 255)) (by kernel_rfl) (.inl rfl) (fun _=>rfl) (fun _=>trivial)
    refine x_q [(9,.dec false)] [0,3,13] [7001] [_] ⟨h1,trivial⟩ (Zac (Zhn (Zbn (Zac ?_))))
    refine xQ [] [0,3] [7001] [inR .i64 (s.atx+1)] ⟨(Zaf om om),trivial⟩ ?_
    refine xQ [(5,.wrap),(8,.wrap),(9,.wrap)] [0,3] [7001] [inR .u64 0] ⟨(Zfr om om),trivial⟩ (Zam (Zam ?_))
    by_cases h3:(s.atx+1)≤(s.code.length:Int)
    ·refine x_r [(9,.dec true)] [0,3,53] [7001] [.ref 7001 0,I 0,Bv true] [some (.box [Zii false s.code,I (s.atx+1),.val (.int .u64 (IntKind.u64.wrap ((IntKind.u64.wrap ((IntKind.u64.wrap (s.seed*6364136223846793005))+0))+1442695040888963407)))])] [_] ⟨h3,trivial⟩ (Zac (Zgs rfl ?_))
     refine xR [] [2] [7001] [I 0] [some (.box [Zii false s.code,I (s.atx+1),.val (.int .u64 (IntKind.u64.wrap ((IntKind.u64.wrap ((IntKind.u64.wrap (s.seed*6364136223846793005))+0))+1442695040888963407)))])] [] trivial (Zby (Zbc ?_))
     refine Zbd (0,(l00Src.mk s.code (s.atx+1) (IntKind.u64.wrap ((IntKind.u64.wrap ((IntKind.u64.wrap (s.seed*6364136223846793005))+0))+1442695040888963407)))) (show (0≤0∧0≤255)∧(Zba (l00Src.mk s.code (s.atx+1) (IntKind.u64.wrap ((IntKind.u64.wrap ((IntKind.u64.wrap (s.seed*6364136223846793005))+0))+1442695040888963407))))∧((l00Src.mk s.code (s.atx+1) (IntKind.u64.wrap ((IntKind.u64.wrap ((IntKind.u64.wrap (s.seed*6364136223846793005))+0))+1442695040888963407))).code=s.code)∧(s.atx+1≤(l00Src.mk s.code (s.atx+1) (IntKind.u64.wrap ((IntKind.u64.wrap ((IntKind.u64.wrap (s.seed*6364136223846793005))+0))+1442695040888963407))).atx∧(l00Src.mk s.code (s.atx+1) (IntKind.u64.wrap ((IntKind.u64.wrap ((IntKind.u64.wrap (s.seed*6364136223846793005))+0))+1442695040888963407))).atx≤s.atx+1)∧(True) from ⟨(by first|omega|rfl|assumption|(dsimp only;first|omega|rfl|assumption)|(simp only [*];done)|exact ⟨hs.1,(by dsimp only;omega),hs1⟩),(by first|omega|rfl|assumption|(dsimp only;first|omega|rfl|assumption)|(simp only [*];done)|exact ⟨hs.1,(by dsimp only;omega),hs1⟩),(by first|omega|rfl|assumption|(dsimp only;first|omega|rfl|assumption)|(simp only [*];done)|exact ⟨hs.1,(by dsimp only;omega),hs1⟩),(by first|omega|rfl|assumption|(dsimp only;first|omega|rfl|assumption)|(simp only [*];done)|exact ⟨hs.1,(by dsimp only;omega),hs1⟩),trivial⟩) (⟨.inl rfl,trivial⟩) (I 0) (by kernel_rfl) (.inl rfl) (fun _=>rfl) (fun _=>trivial)
    refine x_q [(9,.dec false)] [0,3,53] [7001] [_] ⟨h3,trivial⟩ (Zac (Zhn (Zbn (Zac (Zam ?_)))))
    have hb2:=Zza ((IntKind.u64.wrap ((IntKind.u64.wrap ((IntKind.u64.wrap (s.seed*6364136223846793005))+0))+1442695040888963407))/1099511627776)
    refine x_r [] [2] [7001] [I (Zfs .and .u64 ((IntKind.u64.wrap ((IntKind.u64.wrap ((IntKind.u64.wrap (s.seed*6364136223846793005))+0))+1442695040888963407))/1099511627776) 255)] [some (.box [Zii false s.code,I (s.atx+1),.val (.int .u64 (IntKind.u64.wrap ((IntKind.u64.wrap ((IntKind.u64.wrap (s.seed*6364136223846793005))+0))+1442695040888963407)))])] [(0:Int)≤40∧(40:Int)≤((IntKind.bits .u64:Nat):Int),inR .i64 (Zfs .and .u64 ((IntKind.u64.wrap ((IntKind.u64.wrap ((IntKind.u64.wrap (s.seed*6364136223846793005))+0))+1442695040888963407))/1099511627776) 255)] ⟨⟨(by decide),(by decide)⟩,(Zaf om om),trivial⟩ (Zac (Zby ?_))
    refine Zbd ((Zfs .and .u64 ((IntKind.u64.wrap ((IntKind.u64.wrap ((IntKind.u64.wrap (s.seed*6364136223846793005))+0))+1442695040888963407))/1099511627776) 255),(l00Src.mk s.code (s.atx+1) (IntKind.u64.wrap ((IntKind.u64.wrap ((IntKind.u64.wrap (s.seed*6364136223846793005))+0))+1442695040888963407)))) (show (0≤(Zfs .and .u64 ((IntKind.u64.wrap ((IntKind.u64.wrap ((IntKind.u64.wrap (s.seed*6364136223846793005))+0))+1442695040888963407))/1099511627776) 255)∧(Zfs .and .u64 ((IntKind.u64.wrap ((IntKind.u64.wrap ((IntKind.u64.wrap (s.seed*6364136223846793005))+0))+1442695040888963407))/1099511627776) 255)≤255)∧(Zba (l00Src.mk s.code (s.atx+1) (IntKind.u64.wrap ((IntKind.u64.wrap ((IntKind.u64.wrap (s.seed*6364136223846793005))+0))+1442695040888963407))))∧((l00Src.mk s.code (s.atx+1) (IntKind.u64.wrap ((IntKind.u64.wrap ((IntKind.u64.wrap (s.seed*6364136223846793005))+0))+1442695040888963407))).code=s.code)∧(s.atx+1≤(l00Src.mk s.code (s.atx+1) (IntKind.u64.wrap ((IntKind.u64.wrap ((IntKind.u64.wrap (s.seed*6364136223846793005))+0))+1442695040888963407))).atx∧(l00Src.mk s.code (s.atx+1) (IntKind.u64.wrap ((IntKind.u64.wrap ((IntKind.u64.wrap (s.seed*6364136223846793005))+0))+1442695040888963407))).atx≤s.atx+1)∧(True) from ⟨(by first|omega|rfl|assumption|(dsimp only;first|omega|rfl|assumption)|(simp only [*];done)|exact ⟨hs.1,(by dsimp only;omega),hs1⟩),(by first|omega|rfl|assumption|(dsimp only;first|omega|rfl|assumption)|(simp only [*];done)|exact ⟨hs.1,(by dsimp only;omega),hs1⟩),(by first|omega|rfl|assumption|(dsimp only;first|omega|rfl|assumption)|(simp only [*];done)|exact ⟨hs.1,(by dsimp only;omega),hs1⟩),(by first|omega|rfl|assumption|(dsimp only;first|omega|rfl|assumption)|(simp only [*];done)|exact ⟨hs.1,(by dsimp only;omega),hs1⟩),trivial⟩) (⟨.inl rfl,trivial⟩) (I (Zfs .and .u64 ((IntKind.u64.wrap ((IntKind.u64.wrap ((IntKind.u64.wrap (s.seed*6364136223846793005))+0))+1442695040888963407))/1099511627776) 255)) (by kernel_rfl) (.inl rfl) (fun _=>rfl) (fun _=>trivial)
  obtain ⟨⟨v,s'⟩,⟨hh0,hh1,hh2,hh3,_⟩,hc⟩:=hh
  exact ⟨v,s',hh0,hh1,hh2,hh3,hc⟩
theorem Zdh (s:l00Src) (n:Int) (hs:Zba s) (ha:s.atx≤3999999999999999990):∃(v:Int) (s':l00Src),(0≤v∧(v<n∨v=0))∧(Zba s')∧(s'.code=s.code)∧(s.atx+0≤s'.atx∧s'.atx≤s.atx+2)∧Zao Try.prog 39 [.ref 7001 0,I n] (Zab [(7001,Zaa s)]) true (I v) (Zab [(7001,Zaa s')]):=by
  have hs0:=hs.2.1
  have hs1:=hs.2.2
  have hh:∃r:Int×l00Src,((0≤r.1∧(r.1<n∨r.1=0))∧(Zba r.2)∧(r.2.code=s.code)∧(s.atx+0≤r.2.atx∧r.2.atx≤s.atx+2)∧(True))∧Zao Try.prog 39 [.ref 7001 0,I n] (Zab [(7001,Zaa s)]) true (I r.1) (Zab [(7001,Zaa r.2)]):=by
    refine Zcp (Φ:=fun r:Int×l00Src=>(0≤r.1∧(r.1<n∨r.1=0))∧(Zba r.2)∧(r.2.code=s.code)∧(s.atx+0≤r.2.atx∧r.2.atx≤s.atx+2)∧(True)) [(7001,Zaa s)] (fun r=>[(7001,Zaa r.2)]) (fn:=Try.f39) (nt:=20) Try.func39 rfl rfl (args:=[.ref 7001 0,I n]) rfl (Zap (.inr trivial) (Zap (.inl ⟨rfl,trivial⟩) Zco)) (res:=fun r=>I r.1) ?_
    refine xQ [] [0,1] [7001] [] trivial (Zam (Zam ?_))
    by_cases h1:n≤1
    ·refine x_q [(1,.dec true)] [0,1,7] [7001] [_] ⟨h1,trivial⟩ (Zac (Zel ?_))
     refine xR [] [4] [7001] [I 0] [some (Zaa s)] [] trivial (Zby (Zbc ?_))
     refine Zbd (0,s) (show (0≤0∧(0<n∨0=0))∧(Zba s)∧(s.code=s.code)∧(s.atx+0≤s.atx∧s.atx≤s.atx+2)∧(True) from ⟨(by first|omega|rfl|assumption|(dsimp only;first|omega|rfl|assumption)|(simp only [*];done)|exact ⟨Int.emod_nonneg _ om,.inl (Int.emod_lt_of_pos _ om)⟩),(by first|omega|rfl|assumption|(dsimp only;first|omega|rfl|assumption)|(simp only [*];done)|exact ⟨Int.emod_nonneg _ om,.inl (Int.emod_lt_of_pos _ om)⟩),(by first|omega|rfl|assumption|(dsimp only;first|omega|rfl|assumption)|(simp only [*];done)|exact ⟨Int.emod_nonneg _ om,.inl (Int.emod_lt_of_pos _ om)⟩),(by first|omega|rfl|assumption|(dsimp only;first|omega|rfl|assumption)|(simp only [*];done)|exact ⟨Int.emod_nonneg _ om,.inl (Int.emod_lt_of_pos _ om)⟩),trivial⟩) (⟨.inl rfl,trivial⟩) (I 0) (by kernel_rfl) (.inl rfl) (fun _=>rfl) (fun _=>trivial)
    refine x_q [(1,.dec false)] [0,1,7] [7001] [_] ⟨h1,trivial⟩ (Zac (Zhn (Zbn (Zac (Zam ?_)))))
    obtain ⟨v_1,s'_1,hx1_0,hx1_1,hx1_2,hx1_3,hc1⟩:=Zzb s (by first|assumption|(simp only [Zba] at*;simp_all;done)) om
    refine x_q [(1,.lend [(7001,Zaa s,Zaa s'_1)] [] [(true,.any)] true (I v_1))] [0,1,5] [7001] [Zao Try.prog 71 [.ref 7001 0] (Zab [(7001,Zaa s)]) true (I v_1) (Zab [(7001,Zaa s'_1)])∧(((Zaa s:Ob)=Zaa s∨Zef Zdl true (Zaa s) (Zaa s))∧Zan false (Zaa s))∧True] ⟨⟨hc1,⟨.inl rfl,(by simp [Zan,Zag,Zah,Zct])⟩,trivial⟩,trivial⟩ (Zac (Zam (Zam ?_)))
    by_cases h2:200<n
    ·refine x_q [(1,.dec true)] [0,1,5,11] [7001] [_] ⟨h2,trivial⟩ (Zac (Zel ?_))
     obtain ⟨v_2,s'_2,hx2_0,hx2_1,hx2_2,hx2_3,hc2⟩:=Zzb s'_1 (by first|assumption|(simp only [Zba] at*;simp_all;done)) om
     refine x_r [(3,.lend [(7001,Zaa s'_1,Zaa s'_2)] [] [(true,.any)] true (I v_2))] [1,5] [7001] [I n,I ((v_1*256)+v_2)] [some (Zaa s'_2)] [inR .i64 (v_1*256),Zao Try.prog 71 [.ref 7001 0] (Zab [(7001,Zaa s'_1)]) true (I v_2) (Zab [(7001,Zaa s'_2)])∧(((Zaa s'_1:Ob)=Zaa s'_1∨Zef Zdl true (Zaa s'_1) (Zaa s'_1))∧Zan false (Zaa s'_1))∧True,inR .i64 ((v_1*256)+v_2)] ⟨(Zaf om om),⟨hc2,⟨.inl rfl,(by simp [Zan,Zag,Zah,Zct])⟩,trivial⟩,(Zaf om om),trivial⟩ (Zac ?_)
     refine xR [(2,.nn)] [4] [7001] [I (((v_1*256)+v_2) % n)] [some (Zaa s'_2)] [(0:Int)≤((v_1*256)+v_2)∧(0:Int)<n] ⟨⟨om,om⟩,trivial⟩ (Zby ?_)
     refine Zbd ((((v_1*256)+v_2) % n),s'_2) (show (0≤(((v_1*256)+v_2) % n)∧((((v_1*256)+v_2) % n)<n∨(((v_1*256)+v_2) % n)=0))∧(Zba s'_2)∧(s'_2.code=s.code)∧(s.atx+0≤s'_2.atx∧s'_2.atx≤s.atx+2)∧(True) from ⟨(by first|omega|rfl|assumption|(dsimp only;first|omega|rfl|assumption)|(simp only [*];done)|exact ⟨Int.emod_nonneg _ om,.inl (Int.emod_lt_of_pos _ om)⟩),(by first|omega|rfl|assumption|(dsimp only;first|omega|rfl|assumption)|(simp only [*];done)|exact ⟨Int.emod_nonneg _ om,.inl (Int.emod_lt_of_pos _ om)⟩),(by first|omega|rfl|assumption|(dsimp only;first|omega|rfl|assumption)|(simp only [*];done)|exact ⟨Int.emod_nonneg _ om,.inl (Int.emod_lt_of_pos _ om)⟩),(by first|omega|rfl|assumption|(dsimp only;first|omega|rfl|assumption)|(simp only [*];done)|exact ⟨Int.emod_nonneg _ om,.inl (Int.emod_lt_of_pos _ om)⟩),trivial⟩) (⟨.inl rfl,trivial⟩) (I (((v_1*256)+v_2) % n)) (by kernel_rfl) (.inl rfl) (fun _=>rfl) (fun _=>trivial)
    refine x_q [(1,.dec false)] [0,1,5,11] [7001] [_] ⟨h2,trivial⟩ (Zac (Zhn (Zbn (Zac ?_))))
    refine xR [(2,.nn)] [4] [7001] [I (v_1 % n)] [some (Zaa s'_1)] [(0:Int)≤v_1∧(0:Int)<n] ⟨⟨om,om⟩,trivial⟩ (Zby ?_)
    refine Zbd ((v_1 % n),s'_1) (show (0≤(v_1 % n)∧((v_1 % n)<n∨(v_1 % n)=0))∧(Zba s'_1)∧(s'_1.code=s.code)∧(s.atx+0≤s'_1.atx∧s'_1.atx≤s.atx+2)∧(True) from ⟨(by first|omega|rfl|assumption|(dsimp only;first|omega|rfl|assumption)|(simp only [*];done)|exact ⟨Int.emod_nonneg _ om,.inl (Int.emod_lt_of_pos _ om)⟩),(by first|omega|rfl|assumption|(dsimp only;first|omega|rfl|assumption)|(simp only [*];done)|exact ⟨Int.emod_nonneg _ om,.inl (Int.emod_lt_of_pos _ om)⟩),(by first|omega|rfl|assumption|(dsimp only;first|omega|rfl|assumption)|(simp only [*];done)|exact ⟨Int.emod_nonneg _ om,.inl (Int.emod_lt_of_pos _ om)⟩),(by first|omega|rfl|assumption|(dsimp only;first|omega|rfl|assumption)|(simp only [*];done)|exact ⟨Int.emod_nonneg _ om,.inl (Int.emod_lt_of_pos _ om)⟩),trivial⟩) (⟨.inl rfl,trivial⟩) (I (v_1 % n)) (by kernel_rfl) (.inl rfl) (fun _=>rfl) (fun _=>trivial)
  obtain ⟨⟨v,s'⟩,⟨hh0,hh1,hh2,hh3,_⟩,hc⟩:=hh
  exact ⟨v,s',hh0,hh1,hh2,hh3,hc⟩
def orL:List Int→Int
 | []=>0
 |x::r=>if x=0 then orL r else x
theorem Zuu [Inhabited Int] {xs:List Int} :∀ {k:Nat},k<xs.length→(∀j,j<k→at_ xs j=0)→at_ xs k≠0→orL xs=at_ xs k:=by
 induction xs with
 |nil=>intro k h;simp at h
 |cons x r ih=>
  intro k h h0 hk
  cases k with
  |zero=>have e:at_ (x::r) 0=x:=rfl;rw [e] at hk⊢;exact if_neg hk
  |succ k=>
   have e:at_ (x::r) (k+1)=at_ r k:=by simp [at_]
   have e0:x=0:=h0 0 om
   rw [e] at hk⊢
   unfold orL;rw [if_pos e0]
   refine ih (by simpa using h) (fun j hj=> ?_) hk
   have:=h0 (j+1) om
   simpa [at_] using this
theorem Zuv [Inhabited Int] {xs:List Int} :(∀j,j<xs.length→at_ xs j=0)→orL xs=0:=by
 induction xs with
 |nil=>intro _;rfl
 |cons x r ih=>
  intro h
  have e0:x=0:=h 0 (by simp)
  unfold orL;rw [if_pos e0]
  refine ih fun j hj=> ?_
  have:=h (j+1) (by simp;omega)
  simpa [at_] using this
theorem Zig {α:Type} [Inhabited α] {xs:List α} {i:Nat} {x:α} (h:i<xs.length):at_ (xs.set i x) i=x:=by simp [at_,h]
theorem Zjz {α:Type} [Inhabited α] {xs:List α} {i j:Nat} {x:α} (h:i≠j):at_ (xs.set j x) i=at_ xs i:=by
 have h':¬ j=i:=fun e=>h e.symm
 simp [at_,List.getElem?_set,h']
def Zed (a b:Int):Int:=if a<b then-1 else if b<a then 1 else 0
theorem Zjg {a b:Int} :Zed a b<0↔a<b:=by unfold Zed;split<;>(try split)<;>omega
theorem Zmf {a b:Int} :Zed a b=0↔a=b:=by unfold Zed;split<;>(try split)<;>omega
def Zhj {α:Type} (p:List α) (x:α) (j:Nat):List α:=p.take j++x::p.drop j
theorem Zgj {α:Type} {p:List α} {x:α} {j:Nat} (h:j≤p.length):(Zhj p x j).length=p.length+1:=by
 simp [Zhj];omega
theorem Zzc {α:Type} (p:List α) (x:α):Zhj p x p.length=p++[x]:=by simp [Zhj]
theorem Zyc {α:Type} [Inhabited α] {p r:List α} {x:α} {j:Nat} (h:j≤p.length):at_ (Zhj p x j++r) j=x:=by
 have hl:(p.take j).length=j:=by simp;omega
 rw [Zhj,List.append_assoc,Zcc om,hl,Nat.sub_self];simp [at_]
theorem Ziz {α:Type} [Inhabited α] {p r:List α} {x:α} {j k:Nat} (h:j≤p.length) (hk:k<j):at_ (Zhj p x j++r) k=at_ p k:=by
 have hl:(p.take j).length=j:=by simp;omega
 rw [Zhj,List.append_assoc,Zcr om,Zee om,Zee om,List.getElem_take]
theorem at_cons {α:Type} [Inhabited α] (x:α) (l:List α) (k:Nat):at_ (x::l) (k+1)=at_ l k:=by simp [at_]
theorem Zsz {α:Type} [Inhabited α] (l:List α) (j k:Nat):at_ (l.drop j) k=at_ l (j+k):=by simp [at_,List.getElem?_drop]
theorem Zmi {α:Type} [Inhabited α] {p r:List α} {x:α} {j k:Nat} (h:j≤p.length) (hk:j<k):at_ (Zhj p x j++r) k=at_ (p++r) (k-1):=by
 have hl:(p.take j).length=j:=by simp;omega
 have e:k-j=(k-1-j)+1:=by omega
 rw [Zhj,List.append_assoc,Zcc om,hl,e,List.cons_append,at_cons]
 by_cases c:k-1<p.length
 ·rw [Zcr (by simp;omega),Zcr c,Zsz];congr 1;omega
 ·rw [Zcc (by simp;omega),Zcc om];congr 1;simp;omega
theorem Zuf {α:Type} [Inhabited α] {p r:List α} {x:α} {j:Nat} (h:j+1≤p.length):((Zhj p x (j+1)++r).set (j+1) (at_ p j)).set j x=Zhj p x j++r:=by
 refine ext_at (by simp [Zgj h,Zgj (show j≤p.length by omega)]) fun k hk=> ?_
 have hl:(Zhj p x (j+1)++r).length=p.length+1+r.length:=by rw [List.length_append,Zgj h]
 rw [List.length_set,List.length_set,hl] at hk
 by_cases e1:k=j
 ·rw [e1,Zig (by rw [List.length_set,hl];omega),Zyc om]
 ·rw [Zjz e1]
  by_cases e2:k=j+1
  ·rw [e2,Zig (by rw [hl];omega),Zmi om om,Zcr om];rfl
  ·rw [Zjz e2]
   by_cases c:k<j
   ·rw [Ziz h om,Ziz om c]
   ·rw [Zmi h om,Zmi om om]
def Zrk {α:Type} [Inhabited α] (c:α→α→Int) (x:α) (p:List α):Nat→Nat
 |0=>0
 |j+1=>if c x (at_ p j)<0 then Zrk c x p j else j+1
theorem Zpt {α:Type} [Inhabited α] (c:α→α→Int) (x:α) (p:List α):∀j:Nat,Zrk c x p j≤j
 |0=>Nat.le_refl _
 |j+1=>by unfold Zrk;split;exact Nat.le_succ_of_le (Zpt c x p j);exact Nat.le_refl _
def Zmn {α:Type} [Inhabited α] (c:α→α→Int) (p:List α) (x:α):List α:=Zhj p x (Zrk c x p p.length)
def Zci {α:Type} [Inhabited α] (c:α→α→Int) (xs:List α):Nat→List α
 |0=>[]
 |k+1=>Zmn c (Zci c xs k) (at_ xs k)
theorem Zem {α:Type} [Inhabited α] (c:α→α→Int) (xs:List α):∀k:Nat,(Zci c xs k).length=k
 |0=>rfl
 |k+1=>by unfold Zci Zmn;rw [Zgj (Zpt _ _ _ _),Zem c xs k]
theorem isoL_one {α:Type} [Inhabited α] (c:α→α→Int) (xs:List α):Zci c xs 1=[at_ xs 0]:=rfl
theorem Zka {α:Type} [Inhabited α] {c:α→α→Int} {x:α} {p:List α} {j:Nat} (h:∀k:Nat,j≤k→k<p.length→c x (at_ p k)<0) (hj:j≤p.length) (h2:j=0∨¬ c x (at_ p (j-1))<0):Zrk c x p p.length=j:=by
 have:∀m:Nat,m+j≤p.length→Zrk c x p (j+m)=j:=fun m=>by
  induction m with
  |zero=>
   intro _
   rcases h2 with e|e
   ·subst e;rfl
   ·cases j with
    |zero=>rfl
    |succ j=>exact if_neg e
  |succ m ih=>intro hm;exact (if_pos (h (j+m) om om)).trans (ih om)
 have:=this (p.length-j) om
 rwa [show j+(p.length-j)=p.length from by omega] at this
theorem Zuw {α:Type} (p:List α) (x:α) (j:Nat):List.Perm (Zhj p x j) (p++[x]):=by
 unfold Zhj
 refine List.perm_middle.trans ?_
 rw [List.take_append_drop]
 exact (List.perm_append_singleton x p).symm
theorem Zes {α:Type} [Inhabited α] (c:α→α→Int) (xs:List α):∀k:Nat,k≤xs.length→List.Perm (Zci c xs k) (xs.take k)
 |0,_=>by simp [Zci]
 |k+1,h=>by
  rw [List.take_succ_eq_append_getElem om,←Zee om]
  exact (Zuw _ _ _).trans ((Zes c xs k om).append_right _)
def ordR {α:Type} (c:α→α→Int) (B:α→α→Prop) (x y:α):Prop:=c x y<0∨c x y=0∧B x y
structure CmpW {α:Type} (c:α→α→Int):Prop where
 anti:∀x y,c x y<0↔0<c y x
 trans:∀x y z,c x y≤0→c y z<0→c x z<0
theorem CmpW.refl {α:Type} {c:α→α→Int} (h:CmpW c) (x:α):c x x=0:=by have:=h.anti x x;omega
theorem CmpW.zero {α:Type} {c:α→α→Int} (h:CmpW c) {x y:α} (e:c x y=0):c y x=0:=by have h1:=h.anti x y;have h2:=h.anti y x;omega
theorem CmpW.le {α:Type} {c:α→α→Int} (h:CmpW c) {x y z:α} (h1:c x y≤0) (h2:c y z≤0):c x z≤0:=by
 rcases Int.lt_or_le 0 (c x z) with g|g
 ·have q:=(h.anti z x).2 g
  have q2:c y x<0:=h.trans y z x h2 q
  have:=(h.anti y x).1 q2;omega
 ·exact g
theorem pos_lo {α:Type} [Inhabited α] {c:α→α→Int} {x:α} {p:List α} :∀(n k:Nat),Zrk c x p n≤k→k<n→c x (at_ p k)<0
 |0,k,_,h=>absurd h (Nat.not_lt_zero _)
 |n+1,k,h1,h2=>by
  unfold Zrk at h1
  split at h1
  ·rename_i g
   by_cases e:k=n
   ·subst e;exact g
   ·exact pos_lo n k h1 om
  ·omega
theorem pos_at {α:Type} [Inhabited α] {c:α→α→Int} {x:α} {p:List α} :∀n:Nat,Zrk c x p n=0∨¬ c x (at_ p (Zrk c x p n-1))<0
 |0=> .inl rfl
 |n+1=>by
  unfold Zrk
  split
  ·exact pos_at n
  ·right;assumption
theorem Zun {α:Type} [Inhabited α] {c:α→α→Int} (hc:CmpW c) {B:α→α→Prop} {xs:List α} (hB:xs.Pairwise B):∀k:Nat,k≤xs.length→(Zci c xs k).Pairwise (ordR c B)
 |0,_=>by simp [Zci]
 |k+1,h=>by
  have ih:=Zun hc hB k om
  have hp:=Zes c xs k om
  have hl:=Zem c xs k
  obtain ⟨p,hpe⟩:∃p,p=Zci c xs k:=⟨_,rfl⟩
  obtain ⟨x,hx⟩:∃x,x=at_ xs k:=⟨_,rfl⟩
  rw [Zci,←hpe,←hx]
  rw [←hpe] at ih hp hl
  have hbx:∀y∈p,B y x:=fun y hy=>by
   have hm:=hp.mem_iff.1 hy
   obtain ⟨i,hi,e⟩:=List.getElem_of_mem hm
   rw [List.length_take] at hi
   rw [List.getElem_take] at e
   rw [←e,hx,Zee om]
   exact (List.pairwise_iff_getElem.1 hB) i k om om om
  unfold Zmn Zhj
  have hj:=Zpt c x p p.length
  have lo:=fun k hk hk2=>pos_lo (c:=c) (x:=x) (p:=p) p.length k hk hk2
  have hi:=pos_at (c:=c) (x:=x) (p:=p) p.length
  generalize Zrk c x p p.length=j at hj lo hi⊢
  have hle:∀y∈p.take j,c y x≤0:=fun y hy=>by
   obtain ⟨i,hi2,e⟩:=List.getElem_of_mem hy
   rw [List.length_take] at hi2
   rw [List.getElem_take] at e
   rcases hi with e0|e0
   ·omega
   ·have h3:c (at_ p (j-1)) x≤0:=by
     rcases Int.lt_or_le 0 (c (at_ p (j-1)) x) with g|g
     ·exact absurd ((hc.anti _ _).2 g) e0
     ·exact g
    rw [←e]
    by_cases ei:i=j-1
    ·have:p[i]=at_ p (j-1):=by rw [Zee om];congr 1
     rw [this];exact h3
    ·have q:=(List.pairwise_iff_getElem.1 ih) i (j-1) om om om
     rw [←Zee (show j-1<p.length by omega)] at q
     refine hc.le ?_ h3
     rcases q with q|q
     ·omega
     ·omega
  have hgt:∀y∈p.drop j,c x y<0:=fun y hy=>by
   obtain ⟨i,hi2,e⟩:=List.getElem_of_mem hy
   rw [List.length_drop] at hi2
   rw [List.getElem_drop] at e
   rw [←e,←Zee om]
   exact lo _ om om
  rw [List.pairwise_append]
  refine ⟨ih.sublist (List.take_sublist _ _),List.pairwise_cons.2 ⟨fun y hy=> .inl (hgt y hy),ih.sublist (List.drop_sublist _ _)⟩,fun a ha b hb=> ?_⟩
  rcases List.mem_cons.1 hb with e|e
  ·subst e
   have:=hle a ha
   by_cases z:c a b=0
   ·exact .inr ⟨z,hbx a (List.mem_of_mem_take ha)⟩
   ·exact .inl om
  ·exact .inl (hc.trans a x b (hle a ha) (hgt b e))
theorem Ziy {α:Type} [Inhabited α] (c:α→α→Int) (xs:List α):xs=Zci c xs (min 1 xs.length)++xs.drop 1:=by
 cases xs with
 |nil=>rfl
 |cons x r=>show x::r=Zci c (x::r) (min 1 (r.length+1))++r;rw [show min 1 (r.length+1)=1 from by omega,isoL_one];rfl
theorem iso_in {α:Type} [Inhabited α] {c:α→α→Int} {xs:List α} {i:Nat} (hi:i<xs.length):Zci c xs i++xs.drop i=Zhj (Zci c xs i) (at_ xs i) i++xs.drop (i+1):=by
 have hl:=Zem c xs i
 have e:Zhj (Zci c xs i) (at_ xs i) i=Zci c xs i++[at_ xs i]:=by
  have:=Zzc (Zci c xs i) (at_ xs i);rwa [hl] at this
 rw [e,List.append_assoc,Zee hi,List.singleton_append,←List.drop_eq_getElem_cons hi]
theorem Zpk {α:Type} [Inhabited α] {c:α→α→Int} {xs:List α} {i j:Nat} (hj:j≤i) (h:∀k:Nat,j≤k→k<i→c (at_ xs i) (at_ (Zci c xs i) k)<0) (h2:j=0∨¬ c (at_ xs i) (at_ (Zci c xs i) (j-1))<0):
  Zhj (Zci c xs i) (at_ xs i) j=Zci c xs (i+1):=by
 have hl:=Zem c xs i
 have:=Zka (c:=c) (x:=at_ xs i) (p:=Zci c xs i) (j:=j) (fun k h3 h4=>h k h3 om) om h2
 show _=Zmn c (Zci c xs i) (at_ xs i)
 unfold Zmn;rw [this]
def Zdx (n:Nat) (p:Nat→Bool):Int:=match (List.range n).find? p with
 |some i=>i
 |none=>-1
theorem Znz {n:Nat} {p:Nat→Bool} {k:Nat} (hk:k<n) (hp:p k=true) (hn:∀i,i<k→p i=false):Zdx n p=k:=by
 have h:(List.range n).find? p=some k:=by
  rw [List.find?_range_eq_some]
  exact ⟨hp,List.mem_range.2 hk,fun j hj=>by simpa using hn j hj⟩
 simp [Zdx,h]
theorem Zih {n:Nat} {p:Nat→Bool} (hn:∀i,i<n→p i=false):Zdx n p=-1:=by
 have h:(List.range n).find? p=none:=by
  rw [List.find?_range_eq_none]
  intro i hi;simpa using hn i hi
 simp [Zdx,h]
theorem Zrl (n:Nat) (p:Nat→Bool):(Zdx n p=-1∧∀i,i<n→p i=false)∨∃k:Nat,Zdx n p=k∧k<n∧p k=true∧∀i,i<k→p i=false:=by
 by_cases h:∃k,k<n∧p k=true
 ·right
  obtain ⟨k,hk,hp⟩:=h
  cases e:(List.range n).find? p with
  |none=>rw [List.find?_range_eq_none] at e;exact absurd hp (by simpa using e k hk)
  |some i=>
   have e':=e
   rw [List.find?_range_eq_some] at e
   exact ⟨i,by simp [Zdx,e'],List.mem_range.1 e.2.1,e.1,fun j hj=>by simpa using e.2.2 j hj⟩
 ·left
  have h':∀i,i<n→p i=false:=fun i hi=>by rw [←Bool.not_eq_true];exact fun hp=>h ⟨i,hi,hp⟩
  exact ⟨Zih h',h'⟩
theorem Zoa (n:Nat) (p:Nat→Bool):decide (0≤Zdx n p)=Zsy n p:=by
 rcases Zrl n p with ⟨h1,h2⟩|⟨k,h1,h2,h3,_⟩
 ·rw [h1,Zyz h2];decide
 ·rw [h1,anyN_at h2 h3];simp
def inB (a l h:Int):Bool:=decide (l≤a∧a≤h)
theorem Zgk {a l h:Int} :inB a l h=true↔l≤a∧a≤h:=by simp [inB]
def Zdp (b:Box):Bool:=inB b.X1 0 b.X2&&(inB b.Y1 0 b.Y2&&(decide (b.X2≤4095)&&decide (b.Y2≤4095)))
def Zbp (bs:List Box):Bool:=decide ((bs.length:Int)≤60)&&Zpy bs.length (fun j=>Zdp (at_ bs j))
def inIx (bs:List Box) (xs:List Int):Bool:=Zpy xs.length (fun j=>inB (at_ xs j) 0 ((bs.length:Int)-1))
theorem inIx_at {bs:List Box} {xs:List Int} (h:inIx bs xs=true) {j:Nat} (hj:j<xs.length):0≤at_ xs j∧at_ xs j≤(bs.length:Int)-1:=Zgk.1 (Zkz h hj)
def Zvv (n:Nat) (xs:List Int):Prop:=∀x∈xs,0≤x∧x<(n:Int)
theorem Zkb {n:Nat} {xs:List Int} (h:Zvv n xs) {i:Nat} (hi:i<xs.length):0≤at_ xs i∧at_ xs i<(n:Int):=h _ (Zbj hi)
theorem Zfa {α:Type} [Inhabited α] {l:List α} {k:Nat} (h:k<l.length):l.take (k+1)=l.take k++[at_ l k]:=by
 rw [List.take_succ_eq_append_getElem h,Zee h]
def cY (bs:List Box) (i j:Int):Int:=Zed (at_ bs i.toNat).Y1 (at_ bs j.toNat).Y1
def cL (bs:List Box) (i j:Int):Int:=orL [Zed (at_ bs i.toNat).X1 (at_ bs j.toNat).X1,Zed (at_ bs i.toNat).X2 (at_ bs j.toNat).X2,Zed i j]
def lftB (bs:List Box) (i j:Int):Bool:=decide (cL bs i j<0)
def cH (bs:List Box) (i j:Int):Int:=orL [Zed (at_ bs i.toNat).Y1 (at_ bs j.toNat).Y1,Zed i j]
def hghB (bs:List Box) (i j:Int):Bool:=decide (cH bs i j<0)
theorem Znb {bs:List Box} {i j:Int} :cL bs i j<0↔((at_ bs i.toNat).X1<(at_ bs j.toNat).X1∨(at_ bs i.toNat).X1=(at_ bs j.toNat).X1∧((at_ bs i.toNat).X2<(at_ bs j.toNat).X2∨(at_ bs i.toNat).X2=(at_ bs j.toNat).X2∧i<j)):=by
 simp only [cL,orL,Zed]
 (repeat' split)<;>omega
theorem Zta {bs:List Box} {i j:Int} :cH bs i j<0↔((at_ bs i.toNat).Y1<(at_ bs j.toNat).Y1∨(at_ bs i.toNat).Y1=(at_ bs j.toNat).Y1∧i<j):=by
 simp only [cH,orL,Zed]
 (repeat' split)<;>omega
theorem Zyq {bs:List Box} {i j:Int} :cY bs i j<0↔(at_ bs i.toNat).Y1<(at_ bs j.toNat).Y1:=Zjg
def Zml {α:Type} [Inhabited α] (c:α→α→Int) (xs:List α):Prop:=∀i j:Nat,i<j→j<xs.length→¬ c (at_ xs j) (at_ xs i)<0
theorem Zlv {α:Type} [Inhabited α] {c:α→α→Int} {xs:List α} (h:Zml c xs) {i j:Nat} (h1:i<j) (h2:j<xs.length):¬ c (at_ xs j) (at_ xs i)<0:=h i j h1 h2
theorem pos_end {α:Type} [Inhabited α] {c:α→α→Int} {x:α} {p:List α} (h:p.length=0∨¬ c x (at_ p (p.length-1))<0):Zrk c x p p.length=p.length:=Zka (fun k h1 h2=>absurd h2 om) (Nat.le_refl _) h
theorem Zzd {α:Type} [Inhabited α] {c:α→α→Int} {xs:List α} (h:Zml c xs):∀k:Nat,k≤xs.length→Zci c xs k=xs.take k
 |0,_=>by simp [Zci]
 |k+1,hk=>by
  rw [Zci,Zzd h k om,Zmn,pos_end,Zzc,Zfa om]
  rw [List.length_take,Nat.min_eq_left om]
  by_cases e:k=0
  ·exact .inl e
  ·right
   have e1:at_ (xs.take k) (k-1)=at_ xs (k-1):=by
    rw [Zee (by rw [List.length_take];omega),Zee om,List.getElem_take]
   rw [e1]
   exact h (k-1) k om om
theorem Zpl {α:Type} [Inhabited α] {c:α→α→Int} {xs:List α} (h:Zml c xs):Zci c xs xs.length=xs:=by rw [Zzd h _ (Nat.le_refl _),List.take_length]
theorem Zlw {α:Type} [Inhabited α] {c:α→α→Int} {xs:List α} {Q:α→Prop} (h:∀x∈xs,Q x) (k:Nat) (hk:k≤xs.length):∀x∈Zci c xs k,Q x:=fun x hx=>h x (List.mem_of_mem_take ((Zes c xs k hk).mem_iff.1 hx))
theorem Zjb {i k:Nat} (h:i≠k):Nat.beq i k=false:=Bool.eq_false_iff.2 fun e=>h (Nat.eq_of_beq_eq_true e)
theorem Zff {α:Type} [Inhabited α] {xs:List α} {k:Nat} {c:α} (h:k<xs.length):at_ (xs.set k c) k=c:=by simp [at_,h]
theorem Zfh {α:Type} [Inhabited α] {xs:List α} {k i:Nat} {c:α} (h:i≠k):at_ (xs.set k c) i=at_ xs i:=by
 have:¬ k=i:=fun e=>h e.symm
 simp [at_,this]
theorem le_row {ob:Nat→Option Ob} {F N sz p n:Nat} {m:Nat→Nat} {g:Nat→Nat→List AV} {fr:Bool} {f:Nat→List AV} (h:ob F=some (.fam N sz m g)) (hp:p<N) (hn:m p=n)
  (hf:∀i,i<n→g p i=f i∨(AV.idsL (f i)=[]∧leL (fun _=>none) false (g p i) (f i))):le ob true (.row F p) (.sl fr sz n f):=by
 simp only [le,h]
 exact ⟨fun _=>trivial,hp,trivial,hn,hf⟩
def Line.withItems (x:Line) (ys:List Int):Line:=Line.mk x.Top x.Bottom ys
def Zrm (F:Nat) (x:Line) (i:Nat):List AV:=[I x.Top,I x.Bottom,.row F i]
def Zek (F:Nat) (xs:List Line) (i:Nat):List AV:=Zrm F (at_ xs i) i
def Zhm (xs:List Line) (p:Nat):Nat:=((at_ xs p).Items).length
def Zfm (xs:List Line) (p:Nat):Nat→List AV:=fI ((at_ xs p).Items)
abbrev Zdo (F:Nat) (xs:List Line):Ob:= .oar [F] 3 xs.length (Zek F xs)
abbrev Zcv (xs:List Line):Ob:= .fam xs.length 1 (Zhm xs) (Zfm xs)
theorem oleLine {ob:Nat→Option Ob} {F:Nat} (fr:Bool) (xs:List Line) (h:ob F=some (.fam xs.length 1 (Zhm xs) (Zfm xs))):∀i,i<xs.length→AV.idsL (Zfu fr xs i)=[]∧leL ob true (Zek F xs i) (Zfu fr xs i):=
 fun i hi=>And.intro rfl (And.intro rfl (And.intro rfl (And.intro (le_row h hi rfl (fun q _=> .inl rfl)) rfl)))
theorem Zuh {F j N:Nat} (hF:Nat.beq F j=false) {xs:List Line} {x:Line} {g:Nat→List AV} (hN:N=xs.length) (hx:AV.joiL j F N (g 0)=Zrm F x N):∀i,i<(xs++[x]).length→AV.joiL j F N (Zeg xs.length (Zek F xs) g i)=Zek F (xs++[x]) i:=by
 subst hN
 intro i hi
 by_cases h:i<xs.length
 ·rw [Zdk h]
  simp [Zek,Zrm,Zcr h,AV.joiL,AV.joi,hF]
 ·have e:i=xs.length:=by simp at hi;omega
  subst e
  rw [Zdg (Nat.le_refl _),Nat.sub_self,hx]
  simp [Zek,Zcc (Nat.le_refl _),at_]
theorem Zui {xs:List Line} (x:Line) {n:Nat} {f:Nat→List AV} (hn:n=x.Items.length) (hf:∀i,i<n→f i=fI x.Items i):xs.length+1=(xs++[x]).length∧1=1∧∀p,p<(xs++[x]).length→Zcn xs.length n (Zhm xs) p=Zhm (xs++[x]) p∧∀i,i<Zhm (xs++[x]) p→Zbi xs.length f (Zfm xs) p i=Zfm (xs++[x]) p i∨(AV.idsL (Zfm (xs++[x]) p i)=[]∧leL (fun _=>none) false (Zbi xs.length f (Zfm xs) p i) (Zfm (xs++[x]) p i)):=by
 refine ⟨by simp,rfl,fun p hp=> ?_⟩
 by_cases h:p<xs.length
 ·have e:Nat.beq p xs.length=false:=Bool.eq_false_iff.2 fun e=>by have:=Nat.eq_of_beq_eq_true e;omega
  simp [Zcn,Zbi,e,Zhm,Zfm,Zcr h]
 ·have e:p=xs.length:=by simp at hp;omega
  subst e
  have e2:at_ (xs++[x]) xs.length=x:=by simp [Zcc (Nat.le_refl _),at_]
  simp only [Zcn,Zbi,Nat.beq_refl,cond_true,Zhm,Zfm,e2]
  exact ⟨hn,fun i hi=> .inl (hf i om)⟩
theorem Zyl {xs:List Line} {P:Nat} {x':Line} (hx:x'.Items=(at_ xs P).Items):xs.length=(xs.set P x').length∧1=1∧∀p,p<(xs.set P x').length→Zhm xs p=Zhm (xs.set P x') p∧∀i,i<Zhm (xs.set P x') p→Zfm xs p i=Zfm (xs.set P x') p i∨(AV.idsL (Zfm (xs.set P x') p i)=[]∧leL (fun _=>none) false (Zfm xs p i) (Zfm (xs.set P x') p i)):=by
 refine ⟨by simp,rfl,fun p hp=> ?_⟩
 have e:(at_ (xs.set P x') p).Items=(at_ xs p).Items:=by
  by_cases h:p=P
  ·subst h;rw [Zff (by simpa using hp)];exact hx
  ·rw [Zfh h]
 simp only [Zhm,Zfm,e]
 first|exact ⟨trivial,fun i hi=> .inl rfl⟩|exact ⟨trivial,fun i hi=> .inl trivial⟩
theorem oputLine (F0 P:Nat) {xs:List Line} {x':Line} (i:Nat) (hi:i<(xs.set P x').length):(bif Nat.beq i P then Zrm F0 x' P else Zek F0 xs i)=Zek F0 (xs.set P x') i:=by
 by_cases h:i=P
 ·subst h
  have hl:i<xs.length:=by simpa using hi
  simp only [Nat.beq_refl,cond_true,Zek,Zff hl]
 ·simp only [Zjb h,cond_false,Zek,Zfh h]
def Zss (xs:List Line) (q:Nat):List AV:=[I ((at_ xs q).Top),I ((at_ xs q).Bottom)]
theorem Zym {F j P:Nat} {xs:List Line} (x':Line) (i:Nat):(bif Nat.beq i P then Zss xs i++[.arr j] else Zss xs i++[.row F i])=(bif Nat.beq i P then [I ((at_ xs P).Top),I ((at_ xs P).Bottom),.arr j] else Zek F (xs.set P x') i):=by
 by_cases h:i=P
 ·subst h;simp only [Nat.beq_refl,cond_true];rfl
 ·simp only [Zjb h,cond_false,Zek,Zfh h];rfl
theorem Zyn {F P:Nat} {xs:List Line} {x':Line} {cs:List AV} (hc:cs++[.row F P]=Zrm F x' P) (i:Nat) (hi:i<(xs.set P x').length):(bif Nat.beq i P then cs else Zss xs i)++[.row F i]=Zek F (xs.set P x') i:=by
 by_cases h:i=P
 ·subst h
  have hl:i<xs.length:=by simpa using hi
  simp only [Nat.beq_refl,cond_true,Zek,Zff hl];exact hc
 ·simp only [Zjb h,cond_false,Zek,Zfh h];rfl
theorem Zja {xs:List Line} {P m1:Nat} {x':Line} {f1:Nat→List AV} (hP:P<xs.length) (hm:m1=x'.Items.length) (hf:∀i,i<m1→f1 i=fI x'.Items i):xs.length=(xs.set P x').length∧1=1∧∀p,p<(xs.set P x').length→Zcn P m1 (Zhm xs) p=Zhm (xs.set P x') p∧∀i,i<Zhm (xs.set P x') p→Zbi P f1 (Zfm xs) p i=Zfm (xs.set P x') p i∨(AV.idsL (Zfm (xs.set P x') p i)=[]∧leL (fun _=>none) false (Zbi P f1 (Zfm xs) p i) (Zfm (xs.set P x') p i)):=by
 refine ⟨by simp,rfl,fun p hp=> ?_⟩
 by_cases h:p=P
 ·subst h
  have e:(at_ (xs.set p x') p).Items=x'.Items:=by rw [Zff hP]
  simp only [Zhm,Zfm,famUp_at,Zxz,e]
  exact ⟨hm,fun i hi=> .inl (hf i om)⟩
 ·have e:at_ (xs.set P x') p=at_ xs p:=Zfh h
  simp only [Zhm,Zfm,famUp_ne _ _ h,Zya _ _ h,e]
  first|exact ⟨trivial,fun i hi=> .inl rfl⟩|exact ⟨trivial,fun i hi=> .inl trivial⟩
def ixL (n:Nat):List Int:=(List.range n).map fun k:Nat=>(k:Int)
theorem Zdu (n:Nat):(ixL n).length=n:=by simp [ixL]
theorem Zug (n:Nat):ixL (n+1)=ixL n++[(n:Int)]:=by simp [ixL,List.range_succ]
theorem Zhg {n k:Nat} (h:k<n):at_ (ixL n) k=(k:Int):=by simp [ixL,at_,h]
theorem Zpm {n:Nat} {x:Int} :x∈ixL n↔0≤x∧x<(n:Int):=by
 simp only [ixL,List.mem_map,List.mem_range]
 constructor
 ·rintro ⟨k,h,rfl⟩;omega
 ·intro h;exact ⟨x.toNat,by omega,by omega⟩
def Zdq (ls:List Line):Line:=at_ ls (ls.length-1)
def Zjc (bs:List Box) (gap:Int) (ls:List Line) (k:Int):List Line:=
 if ls.length=0∨(Zdq ls).Bottom+gap<(at_ bs k.toNat).Y1 then ls++[⟨(at_ bs k.toNat).Y1,(at_ bs k.toNat).Y2,[k]⟩]
 else ls.set (ls.length-1) ⟨(Zdq ls).Top,max (Zdq ls).Bottom (at_ bs k.toNat).Y2,(Zdq ls).Items++[k]⟩
def Zfl (bs:List Box) (gap:Int) (od:List Int):Nat→List Line
 |0=>[]
 |j+1=>Zjc bs gap (Zfl bs gap od j) (at_ od j)
def Zhr (bs:List Box) (l:Line):Line:=⟨l.Top,l.Bottom,Zci (cL bs) l.Items l.Items.length⟩
def Zfk (bs:List Box):List Int:=Zci (cY bs) (ixL bs.length) bs.length
def Zmm (bs:List Box) (gap:Int):List Line:=(Zfl bs gap (Zfk bs) bs.length).map (Zhr bs)
def smB (bs:List Box):Prop:=bs.length≤12∨bs.length=60∧∀i,i<bs.length→at_ bs i=at_ bs 0
theorem Zdi (bs:List Box):(Zfk bs).length=bs.length:=Zem _ _ _
theorem Zfp {bs:List Box} {x:Int} :x∈Zfk bs↔0≤x∧x<(bs.length:Int):=by
 have p:=Zes (cY bs) (ixL bs.length) bs.length (by rw [Zdu];exact Nat.le_refl _)
 rw [List.take_of_length_le (by rw [Zdu];exact Nat.le_refl _)] at p
 rw [←Zpm];exact p.mem_iff
theorem Zyj {bs:List Box} {j:Nat} (h:j<bs.length):0≤at_ (Zfk bs) j∧at_ (Zfk bs) j<(bs.length:Int):=Zfp.1 (Zbj (by rw [Zdi];exact h))
theorem Zfe {bs:List Box} (h:Zbp bs=true) {j:Nat} (hj:j<bs.length):(0≤(at_ bs j).X1∧(at_ bs j).X1≤(at_ bs j).X2∧(at_ bs j).X2≤4095)∧0≤(at_ bs j).Y1∧(at_ bs j).Y1≤(at_ bs j).Y2∧(at_ bs j).Y2≤4095:=by
 simp only [Zbp,Bool.and_eq_true] at h
 have q:=Zkz h.2 hj
 simp only [Zdp,inB,Bool.and_eq_true,decide_eq_true_eq] at q
 omega
theorem Zma {bs:List Box} (h:Zbp bs=true):bs.length≤60:=by
 simp only [Zbp,Bool.and_eq_true,decide_eq_true_eq] at h;omega
theorem sm_ixY {bs:List Box} (h:smB bs):(ixL bs.length).length≤12∨(ixL bs.length).length=60∧Zml (cY bs) (ixL bs.length):=by
 rw [Zdu]
 rcases h with h|⟨h,h2⟩
 ·exact .inl h
 ·refine .inr ⟨h,fun i j hij hj q=> ?_⟩
  rw [Zdu] at hj
  rw [Zhg hj,Zhg (show i<bs.length by omega),Zyq] at q
  have e1:=h2 j hj
  have e2:=h2 i om
  rw [show ((j:Int)).toNat=j from by omega,show ((i:Int)).toNat=i from by omega,e1,e2] at q
  omega
def Zna (bs:List Box) (gap:Int) (ls:List Line) (k:Int):List Line:=
 if ls.length=0∨(Zdq ls).Bottom+gap<(at_ bs k.toNat).Y1 then ls++[⟨(at_ bs k.toNat).Y1,(at_ bs k.toNat).Y2,[]⟩] else ls
theorem Zyk {bs:List Box} {gap:Int} {ls:List Line} {k:Int} (h:ls.length=0∨(Zdq ls).Bottom+gap<(at_ bs k.toNat).Y1):Zna bs gap ls k=ls++[⟨(at_ bs k.toNat).Y1,(at_ bs k.toNat).Y2,[]⟩]:=if_pos h
theorem pre_n {bs:List Box} {gap:Int} {ls:List Line} {k:Int} (h:¬ (ls.length=0∨(Zdq ls).Bottom+gap<(at_ bs k.toNat).Y1)):Zna bs gap ls k=ls:=if_neg h
theorem Zme (ls:List Line) (x:Line):Zdq (ls++[x])=x:=by
 unfold Zdq
 rw [List.length_append,List.length_singleton,Nat.add_sub_cancel,Zcc (Nat.le_refl _),Nat.sub_self];rfl
theorem Zky {α:Type} (ls:List α) (x y:α):(ls++[x]).set ls.length y=ls++[y]:=by simp
theorem Zpo (bs:List Box) (gap:Int) (ls:List Line) (k:Int):Zjc bs gap ls k=(Zna bs gap ls k).set ((Zna bs gap ls k).length-1) ⟨(Zdq (Zna bs gap ls k)).Top,max (Zdq (Zna bs gap ls k)).Bottom (at_ bs k.toNat).Y2,(Zdq (Zna bs gap ls k)).Items++[k]⟩:=by
 by_cases h:ls.length=0∨(Zdq ls).Bottom+gap<(at_ bs k.toNat).Y1
 ·rw [Zyk h,Zme,List.length_append,List.length_singleton,Nat.add_sub_cancel,Zky,Zjc,if_pos h,Int.max_self];rfl
 ·rw [pre_n h,Zjc,if_neg h]
theorem Zpn (bs:List Box) (gap:Int) (ls:List Line) (k:Int):1≤(Zna bs gap ls k).length∧ls.length≤(Zna bs gap ls k).length∧(Zna bs gap ls k).length≤ls.length+1:=by
 by_cases h:ls.length=0∨(Zdq ls).Bottom+gap<(at_ bs k.toNat).Y1
 ·rw [Zyk h];simp
 ·rw [pre_n h];omega
theorem Ztb {bs:List Box} {gap:Int} {ls:List Line} {k:Int} {l:Line} (h:l∈Zna bs gap ls k):l∈ls∨l=⟨(at_ bs k.toNat).Y1,(at_ bs k.toNat).Y2,[]⟩:=by
 unfold Zna at h
 split at h
 ·rcases List.mem_append.1 h with h|h
  ·exact .inl h
  ·exact .inr (by simpa using h)
 ·exact .inl h
theorem Zkx {ls:List Line} (h:1≤ls.length):Zdq ls∈ls:=Zbj om
def lnB (bs:List Box) (j:Nat) (l:Line):Prop:=(0≤l.Bottom∧l.Bottom≤4095)∧(∀x∈l.Items,0≤x∧x<(bs.length:Int))∧l.Items.length≤j
theorem pre_bd {bs:List Box} {gap:Int} {ls:List Line} {k:Int} {j:Nat} (hp:Zbp bs=true) (hk:0≤k∧k<(bs.length:Int)) (h:∀l∈ls,lnB bs j l):∀l∈Zna bs gap ls k,lnB bs j l:=fun l hl=>by
 rcases Ztb hl with q|q
 ·exact h l q
 ·have b:=Zfe hp (j:=k.toNat) om
  rw [q];exact ⟨⟨by show 0≤(at_ bs k.toNat).Y2;omega,by show (at_ bs k.toNat).Y2≤4095;omega⟩,fun x hx=>by simp at hx,Nat.zero_le _⟩
theorem add_bd {bs:List Box} {gap:Int} {ls:List Line} {k:Int} {j:Nat} (hp:Zbp bs=true) (hk:0≤k∧k<(bs.length:Int)) (h:∀l∈ls,lnB bs j l):∀l∈Zjc bs gap ls k,lnB bs (j+1) l:=fun l hl=>by
 have hq:=pre_bd (gap:=gap) hp hk h
 have b:=Zfe hp (j:=k.toNat) om
 rw [Zpo] at hl
 rcases List.mem_or_eq_of_mem_set hl with q|q
 ·have:=hq l q;exact ⟨this.1,this.2.1,by have:=this.2.2;omega⟩
 ·have:=hq _ (Zkx (Zpn bs gap ls k).1)
  have h3:=this.2.2
  have h1:=this.1
  rw [q]
  refine ⟨⟨by show 0≤max _ _;omega,by show max _ _≤4095;omega⟩,fun x hx=> ?_,by show (((Zdq (Zna bs gap ls k)).Items++[k]:List Int)).length≤j+1;rw [List.length_append,List.length_singleton];omega⟩
  rcases List.mem_append.1 hx with hx|hx
  ·exact this.2.1 x hx
  ·rw [List.mem_singleton.1 hx];exact hk
theorem Znu {bs:List Box} {gap:Int} {od:List Int} (hp:Zbp bs=true) (ho:∀x∈od,0≤x∧x<(bs.length:Int)):∀j:Nat,j≤od.length→∀l∈Zfl bs gap od j,lnB bs j l
 |0,_=>fun l hl=>by simp [Zfl] at hl
 |j+1,h=>add_bd hp (ho _ (Zbj om)) (Znu hp ho j om)
theorem add_len (bs:List Box) (gap:Int) (ls:List Line) (k:Int):1≤(Zjc bs gap ls k).length∧(Zjc bs gap ls k).length≤ls.length+1:=by
 have:=Zpn bs gap ls k
 rw [Zpo,List.length_set];omega
theorem Zmb (bs:List Box) (gap:Int) (od:List Int):∀j:Nat,(Zfl bs gap od j).length≤j
 |0=>by simp [Zfl]
 |j+1=>by
  have h1:=Zmb bs gap od j
  have h2:=(add_len bs gap (Zfl bs gap od j) (at_ od j)).2
  show (Zjc bs gap (Zfl bs gap od j) (at_ od j)).length≤j+1
  omega
theorem Zux {bs:List Box} {gap:Int} (h:∀i,i<bs.length→at_ bs i=at_ bs 0) (hg:0≤gap) (hY:(at_ bs 0).Y1≤(at_ bs 0).Y2):∀j:Nat,j+1≤bs.length→Zfl bs gap (ixL bs.length) (j+1)=[⟨(at_ bs 0).Y1,(at_ bs 0).Y2,ixL (j+1)⟩]
 |0,hj=>by
  show Zjc bs gap [] _=_
  rw [Zjc,if_pos (.inl rfl),Zhg (show 0<bs.length by omega)];rfl
 |j+1,hj=>by
  have ih:=Zux h hg hY j om
  show Zjc bs gap (Zfl bs gap _ (j+1)) _=_
  rw [ih,Zhg om,Zjc]
  have e:at_ bs ((j+1:Nat):Int).toNat=at_ bs 0:=h _ om
  have e2:Zdq [⟨(at_ bs 0).Y1,(at_ bs 0).Y2,ixL (j+1)⟩]=⟨(at_ bs 0).Y1,(at_ bs 0).Y2,ixL (j+1)⟩:=rfl
  rw [e,e2,if_neg (fun q=>q.elim (fun q=>by simp at q) (fun q=>by have q2:(at_ bs 0).Y2+gap<(at_ bs 0).Y1:=q;omega)),Zug (j+1),Int.max_self];rfl
theorem Zrn {bs:List Box} (h:∀i,i<bs.length→at_ bs i=at_ bs 0):Zfk bs=ixL bs.length:=by
 have hs:Zml (cY bs) (ixL bs.length):=fun i j hij hj q=>by
  rw [Zdu] at hj
  rw [Zhg hj,Zhg (show i<bs.length by omega),Zyq] at q
  have e1:=h j hj
  have e2:=h i om
  rw [show ((j:Int)).toNat=j from by omega,show ((i:Int)).toNat=i from by omega,e1,e2] at q
  omega
 have:=Zpl hs
 rwa [Zdu] at this
theorem lin_sm {bs:List Box} {gap:Int} (hp:Zbp bs=true) (hs:smB bs) (hg:0≤gap):∀l∈Zfl bs gap (Zfk bs) bs.length,l.Items.length≤12∨l.Items.length=60∧Zml (cL bs) l.Items:=fun l hl=>by
 rcases hs with h|⟨h,h2⟩
 ·left
  have:=(Znu hp (fun x hx=>Zfp.1 hx) bs.length (by rw [Zdi];exact Nat.le_refl _) l hl).2.2
  omega
 ·right
  have b:=Zfe hp (j:=0) om
  have e:=Zux h2 hg b.2.2.1 (bs.length-1) om
  rw [show bs.length-1+1=bs.length from by omega,←Zrn h2] at e
  rw [e,List.mem_singleton] at hl
  rw [hl]
  refine ⟨by show (Zfk bs).length=60;rw [Zdi,h],fun i j hij hj q=> ?_⟩
  have hj:j<bs.length:=by rw [←Zdi bs];exact hj
  have e3:Zfk bs=ixL bs.length:=Zrn h2
  simp only [e3,Zhg hj,Zhg (show i<bs.length by omega),Znb] at q
  rw [show ((j:Int)).toNat=j from by omega,show ((i:Int)).toNat=i from by omega,h2 j hj,h2 i om] at q
  omega
def Zpx (bs:List Box) (L:List Line) (r:Nat):List Line:=(L.take r).map (Zhr bs)++L.drop r
theorem Zjd (bs:List Box) (L:List Line) (r:Nat):(Zpx bs L r).length=L.length:=by simp [Zpx];omega
theorem srtK_0 (bs:List Box) (L:List Line):Zpx bs L 0=L:=by simp [Zpx]
theorem srtK_end (bs:List Box) (L:List Line):Zpx bs L L.length=L.map (Zhr bs):=by simp [Zpx]
theorem srtK_at {bs:List Box} {L:List Line} {r:Nat} (h:r<L.length):at_ (Zpx bs L r) r=at_ L r:=by
 have hl:((L.take r).map (Zhr bs)).length=r:=by simp;omega
 rw [Zpx,Zcc om,hl,Nat.sub_self,Zsz];rfl
theorem srtK_set {bs:List Box} {L:List Line} {r:Nat} {x:Line} (h:r<L.length) (hx:x=Zhr bs (at_ L r)):(Zpx bs L r).set r x=Zpx bs L (r+1):=by
 subst hx
 refine ext_at (by rw [List.length_set,Zjd,Zjd]) fun k hk=> ?_
 rw [List.length_set,Zjd] at hk
 have lo:∀q j:Nat,j<q→q≤L.length→at_ (Zpx bs L q) j=Zhr bs (at_ L j):=fun q j hj hq=>by
  have hl:((L.take q).map (Zhr bs)).length=q:=by simp;omega
  rw [Zpx,Zcr om,Zee om,List.getElem_map,List.getElem_take,Zee om]
 have hi:∀q j:Nat,q≤j→q≤L.length→at_ (Zpx bs L q) j=at_ L j:=fun q j hj hq=>by
  have hl:((L.take q).map (Zhr bs)).length=q:=by simp;omega
  rw [Zpx,Zcc om,hl,Zsz];congr 1;omega
 by_cases e:k=r
 ·rw [e,Zig (by rw [Zjd];exact h),lo (r+1) r om om]
 ·rw [Zjz e]
  by_cases c:k<r
  ·rw [lo r k c om,lo (r+1) k om om]
  ·rw [hi r k om om,hi (r+1) k om om]
theorem ltLine (ob:Nat→Option Ob) (fv fr:Bool) (x:Line):leL ob fv (Zif true x) (Zif fr x):=And.intro rfl (And.intro rfl (And.intro (And.intro (fun _=>rfl) (And.intro rfl (And.intro rfl (fun i _=> .inl rfl)))) (rfl)))
theorem Zul {ob:Nat→Option Ob} {fr:Bool} (xs:List Line) (x:Line) {g:Nat→List AV} (h:leL ob true (g 0) (Zif fr x)):∀i,i<(xs++[x]).length→AV.idsL (Zfu fr (xs++[x]) i)=[]∧leL ob true (Zeg xs.length (Zfu true xs) g i) (Zfu fr (xs++[x]) i):=by
 intro i hi
 by_cases hl:i<xs.length
 ·rw [Zdk hl]
  have e:Zfu fr (xs++[x]) i=Zif fr (at_ xs i):=by show Zif fr (at_ _ _)=_;rw [Zcr hl]
  rw [e];exact ⟨rfl,ltLine _ _ _ _⟩
 ·have e:i=xs.length:=by simp at hi;omega
  subst e
  rw [Zdg (Nat.le_refl _),Nat.sub_self]
  have e:Zfu fr (xs++[x]) xs.length=Zif fr x:=by show Zif fr (at_ _ _)=_;rw [Zcc (Nat.le_refl _)];simp [at_]
  rw [e];exact ⟨rfl,h⟩
theorem oupdLine {ob:Nat→Option Ob} {fr:Bool} (xs:List Line) (k:Nat) (y:Line) {cs:List AV} (h:leL ob true cs (Zif fr y)):∀i,i<(xs.set k y).length→AV.idsL (Zfu fr (xs.set k y) i)=[]∧leL ob true ((fun q=>bif Nat.beq q k then cs else Zfu true xs q) i) (Zfu fr (xs.set k y) i):=by
 intro i hi
 rw [List.length_set] at hi
 by_cases e:i=k
 ·subst e
  have e2:Zfu fr (xs.set i y) i=Zif fr y:=by show Zif fr (at_ _ _)=_;rw [Zff hi]
  rw [e2]
  refine ⟨rfl,?_⟩
  show leL ob true (bif Nat.beq i i then cs else _) _
  rw [Nat.beq_refl,cond_true];exact h
 ·have e2:Zfu fr (xs.set k y) i=Zif fr (at_ xs i):=by show Zif fr (at_ _ _)=_;rw [Zfh e]
  rw [e2]
  refine ⟨rfl,?_⟩
  show leL ob true (bif Nat.beq i k then cs else Zfu true xs i) _
  rw [Zjb e,cond_false]
  exact ltLine _ _ _ _
theorem Zze {α:Type} [Inhabited α] (c:α→α→Int) (xs ys:List α):∀j:Nat,j≤xs.length→Zci c (xs++ys) j=Zci c xs j
 |0,_=>rfl
 |j+1,h=>by rw [Zci,Zci,Zze c xs ys j om,Zcr om]
theorem iso_snoc {α:Type} [Inhabited α] (c:α→α→Int) (xs:List α) (k:α):Zci c (xs++[k]) (xs++[k]).length=Zmn c (Zci c xs xs.length) k:=by
 rw [List.length_append,List.length_singleton,Zci,Zze c xs [k] _ (Nat.le_refl _),Zcc (Nat.le_refl _),Nat.sub_self];rfl
theorem Zro {α:Type} [Inhabited α] {c c':α→α→Int} {x:α} {p:List α} :∀n:Nat,(∀j,j<n→(c x (at_ p j)<0↔c' x (at_ p j)<0))→Zrk c x p n=Zrk c' x p n
 |0,_=>rfl
 |n+1,h=>by
  unfold Zrk
  rw [Zro n fun j hj=>h j om]
  by_cases e:c x (at_ p n)<0
  ·rw [if_pos e,if_pos ((h n om).1 e)]
  ·rw [if_neg e,if_neg fun q=>e ((h n om).2 q)]
theorem Zrp {α:Type} [Inhabited α] {c c':α→α→Int} {xs:List α} (h:∀i j:Nat,i<j→j<xs.length→(c (at_ xs j) (at_ xs i)<0↔c' (at_ xs j) (at_ xs i)<0)):∀k:Nat,k≤xs.length→Zci c xs k=Zci c' xs k
 |0,_=>rfl
 |k+1,hk=>by
  rw [Zci,Zci,Zrp h k om]
  unfold Zmn
  rw [Zro (c:=c) (c':=c') _ fun j hj=> ?_]
  have hp:=Zes c' xs k om
  have hm:=hp.mem_iff.1 (Zbj hj)
  obtain ⟨i,hi,e⟩:=List.getElem_of_mem hm
  rw [List.length_take] at hi
  rw [List.getElem_take,←Zee om] at e
  rw [←e]
  exact h i k om om
theorem ordH_Y (bs:List Box):Zci (cH bs) (ixL bs.length) bs.length=Zfk bs:=by
 refine Zrp (fun i j hij hj=> ?_) _ (by rw [Zdu];exact Nat.le_refl _)
 rw [Zdu] at hj
 rw [Zhg hj,Zhg (show i<bs.length by omega),Zta,Zyq]
 omega
theorem Zum {α β:Type} [Inhabited α] [Inhabited β] {f:α→β} {xs:List α} {j:Nat} (h:j<xs.length):at_ (xs.map f) j=f (at_ xs j):=by
 rw [Zee (by rw [List.length_map];exact h),Zee h,List.getElem_map]
theorem add_y {bs:List Box} {gap:Int} {ls:List Line} {k:Int} (h:ls.length=0∨(Zdq ls).Bottom+gap<(at_ bs k.toNat).Y1):(Zjc bs gap ls k).map (Zhr bs)=ls.map (Zhr bs)++[⟨(at_ bs k.toNat).Y1,(at_ bs k.toNat).Y2,[k]⟩]:=by
 rw [Zjc,if_pos h,List.map_append];rfl
theorem add_n {bs:List Box} {gap:Int} {ls os:List Line} {k:Int} (h:¬ (ls.length=0∨(Zdq ls).Bottom+gap<(at_ bs k.toNat).Y1)) (ho:os=ls.map (Zhr bs)) {p:Nat} (hp:p=os.length-1):(Zjc bs gap ls k).map (Zhr bs)=os.set p ⟨(at_ os p).Top,max (at_ os p).Bottom (at_ bs k.toNat).Y2,Zmn (cL bs) (at_ os p).Items k⟩:=by
 subst ho
 rw [List.length_map] at hp
 have hn:ls.length≠0:=fun q=>h (.inl q)
 subst hp
 rw [Zum (show ls.length-1<ls.length by omega),Zjc,if_neg h,List.map_set]
 congr 1
 show Zhr bs ⟨_,_,_⟩=_
 unfold Zhr
 simp only [iso_snoc];rfl
theorem ix_perm {bs:List Box} {xs:List Int} (h:∀x∈xs,0≤x∧x<(bs.length:Int)):Zvv bs.length (Zci (cL bs) xs xs.length):=fun x hx=>Zlw h _ (Nat.le_refl _) x hx
theorem ixIn_ins {n:Nat} {c:Int→Int→Int} {xs:List Int} {k:Int} (h:Zvv n xs) (hk:0≤k∧k<(n:Int)):Zvv n (Zmn c xs k):=fun x hx=>by
 have:=(Zuw xs k (Zrk c k xs xs.length)).mem_iff.1 hx
 rcases List.mem_append.1 this with q|q
 ·exact h x q
 ·rw [List.mem_singleton.1 q];exact hk
theorem Zsu {c:Int→Int→Int} (xs:List Int) (k:Int):(Zmn c xs k).length=xs.length+1:=Zgj (Zpt _ _ _ _)
def Zje {α:Type} [Inhabited α] [DecidableEq α] (a b:List α):Bool:=decide (a.length=b.length)&&Zpy a.length (fun j=>decide (at_ a j=at_ b j))
theorem Znf {α:Type} [Inhabited α] [DecidableEq α] (a:List α):Zje a a=true:=by simp [Zje,Zla]
theorem okBx_of {b:Box} (h:(0≤b.X1∧b.X1≤b.X2∧b.X2≤4095)∧0≤b.Y1∧b.Y1≤b.Y2∧b.Y2≤4095):Zdp b=true:=by
 simp [Zdp,inB];omega
theorem Zrh {α:Type} {P:α→Prop} {xs:List α} {x:α} (h:∀y∈xs,P y) (hx:P x):∀y∈xs++[x],P y:=fun y hy=>by
 rcases List.mem_append.1 hy with q|q
 ·exact h y q
 ·rw [List.mem_singleton.1 q];exact hx
def smD (bs:List Box):Prop:=bs.length≤12∨(60≤bs.length∧bs.length≤61)∧∀i,i<bs.length→at_ bs i=at_ bs 0
theorem Zcz (n:Nat) (b:Box) (h:n=60∨n=61):smD (List.replicate n b):=by
 refine .inr ⟨by rw [List.length_replicate];omega,fun i hi=> ?_⟩
 rw [List.length_replicate] at hi
 rw [Zee (by rw [List.length_replicate];exact hi),Zee (by rw [List.length_replicate];omega),List.getElem_replicate,List.getElem_replicate]
theorem smD_ok {bs:List Box} (h:smD bs) (hp:Zbp bs=true):smB bs:=by
 have:=Zma hp
 rcases h with h|⟨h,h2⟩
 ·exact .inl h
 ·exact .inr ⟨by omega,h2⟩
def lnN (n:Nat) (l:Line):Prop:=(1≤l.Items.length∧l.Items.length≤60)∧(∀x∈l.Items,0≤x∧x<(n:Int))∧(0≤l.Top∧l.Top≤4095)∧0≤l.Bottom∧l.Bottom≤4095
theorem add_top {bs:List Box} {gap:Int} {ls:List Line} {k:Int} (hp:Zbp bs=true) (hk:0≤k∧k<(bs.length:Int)) (h:∀l∈ls,(0≤l.Top∧l.Top≤4095)∧1≤l.Items.length):∀l∈Zjc bs gap ls k,(0≤l.Top∧l.Top≤4095)∧1≤l.Items.length:=fun l hl=>by
 have b:=Zfe hp (j:=k.toNat) om
 rw [Zpo] at hl
 have hq:∀l∈Zna bs gap ls k,0≤l.Top∧l.Top≤4095:=fun l hl=>by
  rcases Ztb hl with q|q
  ·exact (h l q).1
  ·rw [q];exact ⟨by show 0≤(at_ bs k.toNat).Y1;omega,by show (at_ bs k.toNat).Y1≤4095;omega⟩
 rcases List.mem_or_eq_of_mem_set hl with q|q
 ·rcases Ztb q with r|r
  ·exact h l r
  ·exfalso
   by_cases c:ls.length=0∨(Zdq ls).Bottom+gap<(at_ bs k.toNat).Y1
   ·rw [Zyk c,List.length_append,List.length_singleton,Nat.add_sub_cancel,Zky] at hl
    rcases List.mem_append.1 hl with z|z
    ·have:=(h l z).2;rw [r] at this;simp at this
    ·have e:=congrArg (fun l=>l.Items.length) (r.symm.trans (List.mem_singleton.1 z));simp at e
   ·rw [pre_n c] at q
    have:=(h l q).2;rw [r] at this;simp at this
 ·rw [q]
  have z:=hq _ (Zkx (Zpn bs gap ls k).1)
  exact ⟨z,by show 1≤((Zdq (Zna bs gap ls k)).Items++[k]).length;rw [List.length_append,List.length_singleton];omega⟩
theorem Zzf {bs:List Box} {gap:Int} {od:List Int} (hp:Zbp bs=true) (ho:∀x∈od,0≤x∧x<(bs.length:Int)):∀j:Nat,j≤od.length→∀l∈Zfl bs gap od j,(0≤l.Top∧l.Top≤4095)∧1≤l.Items.length
 |0,_=>fun l hl=>by simp [Zfl] at hl
 |j+1,h=>add_top hp (ho _ (Zbj om)) (Zzf hp ho j om)
theorem linR_n {bs:List Box} {gap:Int} (hp:Zbp bs=true):(∀l∈Zmm bs gap,lnN bs.length l)∧(Zmm bs gap).length≤bs.length:=by
 have hn:=Zma hp
 refine ⟨fun l hl=> ?_,by unfold Zmm;rw [List.length_map];exact Zmb _ _ _ _⟩
 obtain ⟨m,hm,rfl⟩:=List.mem_map.1 hl
 have h1:=Znu (gap:=gap) hp (fun x hx=>Zfp.1 hx) bs.length (by rw [Zdi];exact Nat.le_refl _) m hm
 have h2:=Zzf (gap:=gap) hp (fun x hx=>Zfp.1 hx) bs.length (by rw [Zdi];exact Nat.le_refl _) m hm
 have e:(Zhr bs m).Items.length=m.Items.length:=Zem _ _ _
 have h3:=h1.2.2
 exact ⟨by rw [e];exact ⟨h2.2,by omega⟩,fun x hx=>Zlw h1.2.1 _ (Nat.le_refl _) x hx,h2.1,h1.1⟩
theorem Ztc (s:l00Src) (hs:Zba s) (ha:s.atx≤3999999999999999400):∃(s':l00Src) (bs:List Box),(bs.length≤11)∧(Zba s')∧(s'.code=s.code)∧(s.atx+0≤s'.atx∧s'.atx≤s.atx+400)∧(∀b∈bs,Zdp b=true)∧Zao Try.prog 38 [.ref 7001 0] (Zab [(7001,Zaa s)]) false (.arr 8231) (Zab [(7001,Zaa s'),(8231,Zjj bs)]):=by
  have hh:∃r:l00Src×(List Box),((r.2.length≤11)∧(Zba r.1)∧(r.1.code=s.code)∧(s.atx+0≤r.1.atx∧r.1.atx≤s.atx+400)∧(∀b∈r.2,Zdp b=true)∧(True))∧Zao Try.prog 38 [.ref 7001 0] (Zab [(7001,Zaa s)]) false (.arr 8231) (Zab [(7001,Zaa r.1),(8231,Zjj r.2)]):=by
    refine Zcp (Φ:=fun r:l00Src×(List Box)=>(r.2.length≤11)∧(Zba r.1)∧(r.1.code=s.code)∧(s.atx+0≤r.1.atx∧r.1.atx≤s.atx+400)∧(∀b∈r.2,Zdp b=true)∧(True)) [(7001,Zaa s)] (fun r=>[(7001,Zaa r.1),(8231,Zjj r.2)]) (fn:=Try.f38) (nt:=39) Try.func38 rfl rfl (args:=[.ref 7001 0]) rfl (Zap (.inr trivial) Zco) (res:=fun r=> .arr 8231) ?_
    refine xQ [] [0] [7001] [] trivial ?_
    refine xQ [(0,.new 7)] [0,3] [7,7001] [] trivial (Zam (Zam ?_))
    obtain ⟨v_1,s'_1,hx1_0,hx1_1,hx1_2,hx1_3,hc1⟩:=Zdh s 12 (by first|assumption|(simp only [Zba] at*;simp_all;done)) om
    refine x_r [(1,.lend [(7001,Zaa s,Zaa s'_1)] [] [(true,.any),(true,.any)] true (I v_1))] [0,3,4] [7,7001] [.ref 7001 0,.arr 7,I v_1] [some (.arr 4 0 (Zeo [] 4)),some (Zaa s'_1)] [Zao Try.prog 39 [.ref 7001 0,I 12] (Zab [(7001,Zaa s)]) true (I v_1) (Zab [(7001,Zaa s'_1)])∧(((Zaa s:Ob)=Zaa s∨Zef Zdl true (Zaa s) (Zaa s))∧Zan false (Zaa s))∧True] ⟨⟨hc1,⟨.inl rfl,(by simp [Zan,Zag,Zah,Zct])⟩,trivial⟩,trivial⟩ (Zac (Zbg ?_))
    refine Zde [] (T:=[(0,.ref 7001 0),(3,.arr 7),(4,I v_1)]) (O:=[(7,Zjj ([]:List Box)),(7001,Zaa s'_1)]) rfl (⟨.inl rfl,.inl rfl,.inl rfl,trivial⟩) (⟨.inr ⟨rfl,(by first|rfl|(simp;done)|(simp;omega)|omega),fun i_ hi_=>absurd hi_ (Nat.not_lt_zero _)⟩,.inl rfl,trivial⟩) ?_
    refine Zdn (X:=(List Box)×Int×l00Src) (fun x=>mkS [(0,.ref 7001 0),(3,.arr 7),(4,I x.2.1)] [(7,Zjj x.1),(7001,Zaa x.2.2)]) (fun x=>(Zba x.2.2∧x.2.2.code=s.code∧s.atx≤x.2.2.atx∧x.2.2.atx≤s.atx+2+30*(11-x.2.1))∧(0≤x.2.1∧x.2.1≤11)∧((x.1.length:Int)+x.2.1≤11)∧(∀b∈x.1,Zdp b=true)∧True) (fun x=>x.2.1.toNat) (([]:List Box),v_1,s'_1) rfl (show (Zba s'_1∧s'_1.code=s.code∧s.atx≤s'_1.atx∧s'_1.atx≤s.atx+2+30*(11-v_1))∧(0≤v_1∧v_1≤11)∧((([]:List Box).length:Int)+v_1≤11)∧(∀b∈([]:List Box),Zdp b=true)∧True from ⟨(by exact ⟨by assumption,by first|assumption|rfl|(simp only [*];done),by omega,by omega⟩),om,(by simp;omega),(by (intro z hz;simp at hz)),trivial⟩) (fun x hI=> ?_)
    obtain ⟨out,k,src⟩:=x
    obtain ⟨hs0,hk0,hl0,hal,_⟩:(Zba src∧src.code=s.code∧s.atx≤src.atx∧src.atx≤s.atx+2+30*(11-k))∧(0≤k∧k≤11)∧((out.length:Int)+k≤11)∧(∀b∈out,Zdp b=true)∧True:=hI
    show XW _ _ _ _ (mkS [(0,.ref 7001 0),(3,.arr 7),(4,I k)] [(7,Zjj out),(7001,Zaa src)]) _ _
    refine Zam (Zam ?_)
    by_cases h1:0<k
    ·refine x_q [(1,.dec true)] [0,3,4,11] [7,7001] [_] ⟨h1,trivial⟩ (Zac (Zel (Zbn (Zac (Zam (Zbg (Zam ?_)))))))
     obtain ⟨v_2,s'_2,hx2_0,hx2_1,hx2_2,hx2_3,hc2⟩:=Zdh src 30 (by first|assumption|(simp only [Zba] at*;simp_all;done)) om
     refine x_q [(1,.lend [(7001,Zaa src,Zaa s'_2)] [] [(true,.any),(true,.any)] true (I v_2))] [0,3,4,5] [7,7001] [Zao Try.prog 39 [.ref 7001 0,I 30] (Zab [(7001,Zaa src)]) true (I v_2) (Zab [(7001,Zaa s'_2)])∧(((Zaa src:Ob)=Zaa src∨Zef Zdl true (Zaa src) (Zaa src))∧Zan false (Zaa src))∧True,inR .i64 (v_2*20)] ⟨⟨hc2,⟨.inl rfl,(by simp [Zan,Zag,Zah,Zct])⟩,trivial⟩,(Zaf om om),trivial⟩ (Zac (Zam ?_))
     obtain ⟨v_3,s'_3,hx3_0,hx3_1,hx3_2,hx3_3,hc3⟩:=Zdh s'_2 4 (by first|assumption|(simp only [Zba] at*;simp_all;done)) om
     obtain ⟨v_4,s'_4,hx4_0,hx4_1,hx4_2,hx4_3,hc4⟩:=Zdh s'_3 20 (by first|assumption|(simp only [Zba] at*;simp_all;done)) om
     refine x_q [(1,.lend [(7001,Zaa s'_2,Zaa s'_3)] [] [(true,.any),(true,.any)] true (I v_3)),(4,.lend [(7001,Zaa s'_3,Zaa s'_4)] [] [(true,.any),(true,.any)] true (I v_4))] [0,3,4,5,6] [7,7001] [Zao Try.prog 39 [.ref 7001 0,I 4] (Zab [(7001,Zaa s'_2)]) true (I v_3) (Zab [(7001,Zaa s'_3)])∧(((Zaa s'_2:Ob)=Zaa s'_2∨Zef Zdl true (Zaa s'_2) (Zaa s'_2))∧Zan false (Zaa s'_2))∧True,inR .i64 (v_3*100),Zao Try.prog 39 [.ref 7001 0,I 20] (Zab [(7001,Zaa s'_3)]) true (I v_4) (Zab [(7001,Zaa s'_4)])∧(((Zaa s'_3:Ob)=Zaa s'_3∨Zef Zdl true (Zaa s'_3) (Zaa s'_3))∧Zan false (Zaa s'_3))∧True,inR .i64 ((v_3*100)+v_4)] ⟨⟨hc3,⟨.inl rfl,(by simp [Zan,Zag,Zah,Zct])⟩,trivial⟩,(Zaf om om),⟨hc4,⟨.inl rfl,(by simp [Zan,Zag,Zah,Zct])⟩,trivial⟩,(Zaf om om),trivial⟩ (Zac ?_)
     obtain ⟨v_5,s'_5,hx5_0,hx5_1,hx5_2,hx5_3,hc5⟩:=Zdh s'_4 40 (by first|assumption|(simp only [Zba] at*;simp_all;done)) om
     obtain ⟨v_6,s'_6,hx6_0,hx6_1,hx6_2,hx6_3,hc6⟩:=Zdh s'_5 50 (by first|assumption|(simp only [Zba] at*;simp_all;done)) om
     refine x_r [(5,.lend [(7001,Zaa s'_4,Zaa s'_5)] [] [(true,.any),(true,.any)] true (I v_5)),(10,.lend [(7001,Zaa s'_5,Zaa s'_6)] [] [(true,.any),(true,.any)] true (I v_6)),(13,.new 36),(14,.new 37)] [0,3,4] [37,7001] [.ref 7001 0,.arr 37,I k] [some (.arr 4 (out.length+1) (Zeg out.length (Zdr out) (Zeo [I (v_2*20),I ((v_3*100)+v_4),I ((v_2*20)+v_5),I ((((v_3*100)+v_4)+20)+v_6)] 4))),some (Zaa s'_6)] [Zao Try.prog 39 [.ref 7001 0,I 40] (Zab [(7001,Zaa s'_4)]) true (I v_5) (Zab [(7001,Zaa s'_5)])∧(((Zaa s'_4:Ob)=Zaa s'_4∨Zef Zdl true (Zaa s'_4) (Zaa s'_4))∧Zan false (Zaa s'_4))∧True,inR .i64 ((v_2*20)+v_5),inR .i64 (((v_3*100)+v_4)+20),Zao Try.prog 39 [.ref 7001 0,I 50] (Zab [(7001,Zaa s'_5)]) true (I v_6) (Zab [(7001,Zaa s'_6)])∧(((Zaa s'_5:Ob)=Zaa s'_5∨Zef Zdl true (Zaa s'_5) (Zaa s'_5))∧Zan false (Zaa s'_5))∧True,inR .i64 ((((v_3*100)+v_4)+20)+v_6),(out.length+1)*32≤140737488355328] ⟨⟨hc5,⟨.inl rfl,(by simp [Zan,Zag,Zah,Zct])⟩,trivial⟩,(Zaf om om),(Zaf om om),⟨hc6,⟨.inl rfl,(by simp [Zan,Zag,Zah,Zct])⟩,trivial⟩,(Zaf om om),om,trivial⟩ (Zbm 1 (Zac ?_))
     refine x_r [] [0,3,4] [37,7001] [.ref 7001 0,.arr 37,I (k-1)] [some (.arr 4 (out.length+1) (Zeg out.length (Zdr out) (Zeo [I (v_2*20),I ((v_3*100)+v_4),I ((v_2*20)+v_5),I ((((v_3*100)+v_4)+20)+v_6)] 4))),some (Zaa s'_6)] [inR .i64 (k-1)] ⟨(Zaf om om),trivial⟩ ?_
     refine Zcb [(7,37)] (T:=[(0,.ref 7001 0),(3,.arr 7),(4,I (k-1))]) (O:=[(7,Zjj (out++[(Box.mk (v_2*20) ((v_3*100)+v_4) ((v_2*20)+v_5) ((((v_3*100)+v_4)+20)+v_6))])),(7001,Zaa s'_6)]) rfl (⟨.inl rfl,.inl rfl,.inl rfl,trivial⟩) (⟨.inr ⟨rfl,(by first|rfl|(simp;done)|(simp;omega)|omega),fun i_ hi_=> .inl (Zdm (enc:=Znw) (xs:=out) rfl i_ hi_)⟩,.inl rfl,trivial⟩) (Zbu ((out++[(Box.mk (v_2*20) ((v_3*100)+v_4) ((v_2*20)+v_5) ((((v_3*100)+v_4)+20)+v_6))]),(k-1),s'_6) rfl (show (Zba s'_6∧s'_6.code=s.code∧s.atx≤s'_6.atx∧s'_6.atx≤s.atx+2+30*(11-(k-1)))∧(0≤(k-1)∧(k-1)≤11)∧(((out++[(Box.mk (v_2*20) ((v_3*100)+v_4) ((v_2*20)+v_5) ((((v_3*100)+v_4)+20)+v_6))]).length:Int)+(k-1)≤11)∧(∀b∈(out++[(Box.mk (v_2*20) ((v_3*100)+v_4) ((v_2*20)+v_5) ((((v_3*100)+v_4)+20)+v_6))]),Zdp b=true)∧True from ⟨(by exact ⟨by assumption,by first|assumption|rfl|(simp only [*];done),by omega,by omega⟩),om,(by simp;omega),(by exact Zrh hal (okBx_of ⟨by dsimp only;omega,by dsimp only;omega⟩)),trivial⟩) (by first|(show ((k-1).toNat:Nat)<k.toNat;omega)|(dsimp only;omega)))
    refine x_r [(1,.dec false)] [0,3,4,11] [7,7001] [.ref 7001 0,.arr 7,I k,Bv false] [some (Zjj out),some (Zaa src)] [_] ⟨h1,trivial⟩ (Zac (Zca rfl (Zcw (Zas ?_))))
    refine Zaw ?_
    refine Zat (Zac ?_)
    refine xR [] [2] [7,7001] [.arr 7] [some (Zjj out),some (Zaa src)] [] trivial (Zby ?_)
    refine Zcb [(8231,7)] (T:=[(2,.arr 8231)]) (O:=[(7001,Zaa src),(8231,Zjj out)]) rfl (⟨.inl rfl,trivial⟩) (⟨.inl rfl,.inl rfl,trivial⟩) ?_
    refine Zbd (src,out) (show (out.length≤11)∧(Zba src)∧(src.code=s.code)∧(s.atx+0≤src.atx∧src.atx≤s.atx+400)∧(∀b∈out,Zdp b=true)∧(True) from ⟨(by first|omega|assumption|rfl|(simp;done)|(simp;omega)|(simp_all;done)|assumption|exact hal),(by first|omega|assumption|rfl|(simp;done)|(simp;omega)|(simp_all;done)|assumption|exact hal),(by first|omega|assumption|rfl|(simp;done)|(simp;omega)|(simp_all;done)|assumption|exact hal),(by first|omega|assumption|rfl|(simp;done)|(simp;omega)|(simp_all;done)|assumption|exact hal),(by first|omega|assumption|rfl|(simp;done)|(simp;omega)|(simp_all;done)|assumption|exact hal),trivial⟩) (⟨.inl rfl,.inl rfl,trivial⟩) (.arr 8231) (by kernel_rfl) (.inl rfl) (fun h=>by cases h) (fun h=>by cases h)
  obtain ⟨⟨s',bs⟩,⟨hh0,hh1,hh2,hh3,hh4,_⟩,hc⟩:=hh
  exact ⟨s',bs,hh0,hh1,hh2,hh3,hh4,hc⟩
theorem Zpu (s:l00Src) (list:List Int) (hs:Zba s) (ha:s.atx≤3999999999999999980) (hl:0<list.length∧list.length≤1000):∃(v:Int) (s':l00Src),(v∈list)∧(Zba s')∧(s'.code=s.code)∧(s.atx+0≤s'.atx∧s'.atx≤s.atx+2)∧Zao Try.prog 42 [.ref 7001 0,slI false list] (Zab [(7001,Zaa s)]) true (I v) (Zab [(7001,Zaa s')]):=by
 have hh:∃r:Int×l00Src,((r.1∈list)∧(Zba r.2)∧(r.2.code=s.code)∧(s.atx+0≤r.2.atx∧r.2.atx≤s.atx+2)∧(True))∧Zao Try.prog 42 [.ref 7001 0,slI false list] (Zab [(7001,Zaa s)]) true (I r.1) (Zab [(7001,Zaa r.2)]):=by
  refine Zcp (Φ:=fun r:Int×l00Src=>(r.1∈list)∧(Zba r.2)∧(r.2.code=s.code)∧(s.atx+0≤r.2.atx∧r.2.atx≤s.atx+2)∧(True)) [(7001,Zaa s)] (fun r=>[(7001,Zaa r.2)]) (fn:=Try.f42) (nt:=12) Try.func42 rfl rfl (args:=[.ref 7001 0,slI false list]) rfl (Zap (.inr trivial) (Zap (.inl ⟨rfl,Zft false _⟩) Zco)) (res:=fun r=>I r.1) ?_
  refine xQ [] [0,1] [7001] [] trivial (Zam ?_)
  obtain ⟨v_1,s'_1,hx1_0,hx1_1,hx1_2,hx1_3,hc1⟩:=Zdh s (list.length:Int) (by first|assumption|(simp only [Zba] at*;simp_all;done)) om
  refine x_r [(4,.lend [(7001,Zaa s,Zaa s'_1)] [] [(true,.any),(true,.any)] true (I v_1))] [4] [7001] [I (at_ list v_1.toNat)] [some (Zaa s'_1)] [Zao Try.prog 39 [.ref 7001 0,I (list.length:Int)] (Zab [(7001,Zaa s)]) true (I v_1) (Zab [(7001,Zaa s'_1)])∧(((Zaa s:Ob)=Zaa s∨Zef Zdl true (Zaa s) (Zaa s))∧Zan false (Zaa s))∧True,(0:Int)≤v_1∧v_1<(list.length:Int)] ⟨⟨hc1,⟨.inl rfl,(by simp [Zan,Zag,Zah,Zct])⟩,trivial⟩,⟨om,om⟩,trivial⟩ (Zac (Zby ?_))
  refine Zbd ((at_ list v_1.toNat),s'_1) (show ((at_ list v_1.toNat)∈list)∧(Zba s'_1)∧(s'_1.code=s.code)∧(s.atx+0≤s'_1.atx∧s'_1.atx≤s.atx+2)∧(True) from ⟨(by first|omega|rfl|assumption|(dsimp only;first|omega|rfl|assumption)|(simp only [*];done)|(exact Zbj om)|(simp_all;done)),(by first|omega|rfl|assumption|(dsimp only;first|omega|rfl|assumption)|(simp only [*];done)|(exact Zbj om)|(simp_all;done)),(by first|omega|rfl|assumption|(dsimp only;first|omega|rfl|assumption)|(simp only [*];done)|(exact Zbj om)|(simp_all;done)),(by first|omega|rfl|assumption|(dsimp only;first|omega|rfl|assumption)|(simp only [*];done)|(exact Zbj om)|(simp_all;done)),trivial⟩) (⟨.inl rfl,trivial⟩) (I (at_ list v_1.toNat)) (by kernel_rfl) (.inl rfl) (fun _=>rfl) (fun _=>trivial)
 obtain ⟨⟨v,s'⟩,⟨hh0,hh1,hh2,hh3,_⟩,hc⟩:=hh
 exact ⟨v,s',hh0,hh1,hh2,hh3,hc⟩
theorem Zpv (s:l00Src) (hs:Zba s) (ha:s.atx≤3999999999999999800):∃(v:Box) (s':l00Src),(Zba s')∧(s'.code=s.code)∧(s.atx+0≤s'.atx∧s'.atx≤s.atx+60)∧Zao Try.prog 59 [.ref 7001 0] (Zab [(7001,Zaa s)]) true (Zkl v) (Zab [(7001,Zaa s')]):=by
  have hh:∃r:Box×l00Src,((Zba r.2)∧(r.2.code=s.code)∧(s.atx+0≤r.2.atx∧r.2.atx≤s.atx+60)∧(True))∧Zao Try.prog 59 [.ref 7001 0] (Zab [(7001,Zaa s)]) true (Zkl r.1) (Zab [(7001,Zaa r.2)]):=by
    refine Zcp (Φ:=fun r:Box×l00Src=>(Zba r.2)∧(r.2.code=s.code)∧(s.atx+0≤r.2.atx∧r.2.atx≤s.atx+60)∧(True)) [(7001,Zaa s)] (fun r=>[(7001,Zaa r.2)]) (fn:=Try.f59) (nt:=41) Try.func59 rfl rfl (args:=[.ref 7001 0]) rfl (Zap (.inr trivial) Zco) (res:=fun r=>Zkl r.1) ?_
    refine xQ [(0,.new 2)] [0,2] [2,7001] [] trivial (Zam ?_)
    obtain ⟨v_1,s'_1,hx1_0,hx1_1,hx1_2,hx1_3,hc1⟩:=Zdh s 900 (by first|assumption|(simp only [Zba] at*;simp_all;done)) om
    refine x_q [(1,.lend [(7001,Zaa s,Zaa s'_1)] [] [(true,.any),(true,.any)] true (I v_1))] [0,2,3] [2,7001] [Zao Try.prog 39 [.ref 7001 0,I 900] (Zab [(7001,Zaa s)]) true (I v_1) (Zab [(7001,Zaa s'_1)])∧(((Zaa s:Ob)=Zaa s∨Zef Zdl true (Zaa s) (Zaa s))∧Zan false (Zaa s))∧True] ⟨⟨hc1,⟨.inl rfl,(by simp [Zan,Zag,Zah,Zct])⟩,trivial⟩,trivial⟩ (Zac (Zam ?_))
    obtain ⟨v_2,s'_2,hx2_0,hx2_1,hx2_2,hx2_3,hc2⟩:=Zdh s'_1 900 (by first|assumption|(simp only [Zba] at*;simp_all;done)) om
    refine x_q [(1,.lend [(7001,Zaa s'_1,Zaa s'_2)] [] [(true,.any),(true,.any)] true (I v_2))] [0,2,3,4] [2,7001] [Zao Try.prog 39 [.ref 7001 0,I 900] (Zab [(7001,Zaa s'_1)]) true (I v_2) (Zab [(7001,Zaa s'_2)])∧(((Zaa s'_1:Ob)=Zaa s'_1∨Zef Zdl true (Zaa s'_1) (Zaa s'_1))∧Zan false (Zaa s'_1))∧True] ⟨⟨hc2,⟨.inl rfl,(by simp [Zan,Zag,Zah,Zct])⟩,trivial⟩,trivial⟩ (Zac (Zam ?_))
    obtain ⟨v_3,s'_3,hx3_0,hx3_1,hx3_2,hx3_3,hc3⟩:=Zdh s'_2 300 (by first|assumption|(simp only [Zba] at*;simp_all;done)) om
    obtain ⟨v_4,s'_4,hx4_0,hx4_1,hx4_2,hx4_3,hc4⟩:=Zdh s'_3 300 (by first|assumption|(simp only [Zba] at*;simp_all;done)) om
    refine x_r [(4,.lend [(7001,Zaa s'_2,Zaa s'_3)] [] [(true,.any),(true,.any)] true (I v_3)),(8,.lend [(7001,Zaa s'_3,Zaa s'_4)] [] [(true,.any),(true,.any)] true (I v_4)),(11,.new 5)] [0,2,5] [2,5,7001] [.ref 7001 0,.ref 2 0,.ref 5 0] [some (.box [I 0,I 0,I 0,I 0]),some (.box [I v_1,I v_2,I (v_1+v_3),I (v_2+v_4)]),some (Zaa s'_4)] [Zao Try.prog 39 [.ref 7001 0,I 300] (Zab [(7001,Zaa s'_2)]) true (I v_3) (Zab [(7001,Zaa s'_3)])∧(((Zaa s'_2:Ob)=Zaa s'_2∨Zef Zdl true (Zaa s'_2) (Zaa s'_2))∧Zan false (Zaa s'_2))∧True,inR .i64 (v_1+v_3),Zao Try.prog 39 [.ref 7001 0,I 300] (Zab [(7001,Zaa s'_3)]) true (I v_4) (Zab [(7001,Zaa s'_4)])∧(((Zaa s'_3:Ob)=Zaa s'_3∨Zef Zdl true (Zaa s'_3) (Zaa s'_3))∧Zan false (Zaa s'_3))∧True,inR .i64 (v_2+v_4)] ⟨⟨hc3,⟨.inl rfl,(by simp [Zan,Zag,Zah,Zct])⟩,trivial⟩,(Zaf om om),⟨hc4,⟨.inl rfl,(by simp [Zan,Zag,Zah,Zct])⟩,trivial⟩,(Zaf om om),trivial⟩ (Zac (Zam (Zam ?_)))
    obtain ⟨v_5,s'_5,hx5_0,hx5_1,hx5_2,hx5_3,hc5⟩:=Zdh s'_4 16 (by first|assumption|(simp only [Zba] at*;simp_all;done)) om
    refine x_q [(1,.lend [(7001,Zaa s'_4,Zaa s'_5)] [] [(true,.any),(true,.any)] true (I v_5))] [0,2,5,22] [2,5,7001] [Zao Try.prog 39 [.ref 7001 0,I 16] (Zab [(7001,Zaa s'_4)]) true (I v_5) (Zab [(7001,Zaa s'_5)])∧(((Zaa s'_4:Ob)=Zaa s'_4∨Zef Zdl true (Zaa s'_4) (Zaa s'_4))∧Zan false (Zaa s'_4))∧True] ⟨⟨hc5,⟨.inl rfl,(by simp [Zan,Zag,Zah,Zct])⟩,trivial⟩,trivial⟩ (Zac (Zbg (Zam ?_)))
    by_cases h1:v_5=0
    ·refine x_q [(0,.dec true)] [0,2,5,22,23] [2,5,7001] [_] ⟨h1,trivial⟩ (Zac (Zel ?_))
     obtain ⟨v_6,s'_6,hx6_0,hx6_1,hx6_2,hx6_3,hc6⟩:=Zpu s'_5 ([(-1),(v_1+v_3),((v_1+v_3)+1)]) (by first|assumption|(simp only [Zba] at*;simp_all;done)) om (by simp)
     refine x_q [(6,.new 31),(7,.lend [(7001,Zaa s'_5,Zaa s'_6)] [] [(true,.any),(false,slI false ([(-1),(v_1+v_3),((v_1+v_3)+1)]))] true (I v_6))] [2,5] [2,5,7001] [inR .i64 ((v_1+v_3)+1),Zao Try.prog 42 [.ref 7001 0,slI false ([(-1),(v_1+v_3),((v_1+v_3)+1)])] (Zab [(7001,Zaa s'_5)]) true (I v_6) (Zab [(7001,Zaa s'_6)])∧((false=true→true=true)∧1=1∧3=(([(-1),(v_1+v_3),((v_1+v_3)+1)]).length)∧∀i_,i_<(([(-1),(v_1+v_3),((v_1+v_3)+1)]).length)→(Zeo [I (-1),I (v_1+v_3),I ((v_1+v_3)+1)] 1) i_=(fI ([(-1),(v_1+v_3),((v_1+v_3)+1)])) i_∨(AV.idsL ((fI ([(-1),(v_1+v_3),((v_1+v_3)+1)])) i_)=[]∧leL (fun _=>none) false ((Zeo [I (-1),I (v_1+v_3),I ((v_1+v_3)+1)] 1) i_) ((fI ([(-1),(v_1+v_3),((v_1+v_3)+1)])) i_)))∧(((Zaa s'_5:Ob)=Zaa s'_5∨Zef Zdl true (Zaa s'_5) (Zaa s'_5))∧Zan false (Zaa s'_5))∧True] ⟨(Zaf om om),⟨hc6,⟨(fun h=>by cases h),rfl,(by first|rfl|(simp;done)|(simp;omega)|omega),fun i_ hi_=> .inl (match i_,hi_ with|0,_=>rfl|1,_=>rfl|2,_=>rfl|(i+3),h=>absurd h (by simp))⟩,⟨.inl rfl,(by simp [Zan,Zag,Zah,Zct])⟩,trivial⟩,trivial⟩ (Zbm 0 (Zac ?_))
     refine xR [] [2] [2,7001] [.ref 2 0] [some (.box [I v_6,I v_2,I (v_1+v_3),I (v_2+v_4)]),some (Zaa s'_6)] [] trivial (Zby ?_)
     refine Zbd ((Box.mk v_6 v_2 (v_1+v_3) (v_2+v_4)),s'_6) (show (Zba s'_6)∧(s'_6.code=s.code)∧(s.atx+0≤s'_6.atx∧s'_6.atx≤s.atx+60)∧(True) from ⟨(by first|omega|assumption|rfl|(simp;done)|(simp;omega)|(simp_all;done)),(by first|omega|assumption|rfl|(simp;done)|(simp;omega)|(simp_all;done)),(by first|omega|assumption|rfl|(simp;done)|(simp;omega)|(simp_all;done)),trivial⟩) (⟨.inl rfl,trivial⟩) (.agg [I v_6,I v_2,I (v_1+v_3),I (v_2+v_4)]) (by kernel_rfl) (.inl rfl) (fun _=>rfl) (fun _=>(by simp [Zah,Zag]))
    refine x_q [(0,.dec false)] [0,2,5,22,23] [2,5,7001] [_] ⟨h1,trivial⟩ (Zac (Zhn (Zam ?_)))
    by_cases h2:v_5=1
    ·refine x_q [(0,.dec true)] [0,2,5,34] [2,5,7001] [_] ⟨h2,trivial⟩ (Zac (Zel ?_))
     obtain ⟨v_7,s'_7,hx7_0,hx7_1,hx7_2,hx7_3,hc7⟩:=Zpu s'_5 ([4095,4096,(-1)]) (by first|assumption|(simp only [Zba] at*;simp_all;done)) om (by simp)
     refine x_q [(1,.new 37),(2,.lend [(7001,Zaa s'_5,Zaa s'_7)] [] [(true,.any),(false,slI false ([4095,4096,(-1)]))] true (I v_7))] [2,5] [2,5,7001] [Zao Try.prog 42 [.ref 7001 0,slI false ([4095,4096,(-1)])] (Zab [(7001,Zaa s'_5)]) true (I v_7) (Zab [(7001,Zaa s'_7)])∧((false=true→true=true)∧1=1∧3=(([4095,4096,(-1)]).length)∧∀i_,i_<(([4095,4096,(-1)]).length)→(Zeo [I 4095,I 4096,I (-1)] 1) i_=(fI ([4095,4096,(-1)])) i_∨(AV.idsL ((fI ([4095,4096,(-1)])) i_)=[]∧leL (fun _=>none) false ((Zeo [I 4095,I 4096,I (-1)] 1) i_) ((fI ([4095,4096,(-1)])) i_)))∧(((Zaa s'_5:Ob)=Zaa s'_5∨Zef Zdl true (Zaa s'_5) (Zaa s'_5))∧Zan false (Zaa s'_5))∧True] ⟨⟨hc7,⟨(fun h=>by cases h),rfl,(by first|rfl|(simp;done)|(simp;omega)|omega),fun i_ hi_=> .inl (match i_,hi_ with|0,_=>rfl|1,_=>rfl|2,_=>rfl|(i+3),h=>absurd h (by simp))⟩,⟨.inl rfl,(by simp [Zan,Zag,Zah,Zct])⟩,trivial⟩,trivial⟩ (Zbm 0 (Zac ?_))
     refine xR [] [2] [2,7001] [.ref 2 0] [some (.box [I v_1,I v_2,I (v_1+v_3),I v_7]),some (Zaa s'_7)] [] trivial (Zby ?_)
     refine Zbd ((Box.mk v_1 v_2 (v_1+v_3) v_7),s'_7) (show (Zba s'_7)∧(s'_7.code=s.code)∧(s.atx+0≤s'_7.atx∧s'_7.atx≤s.atx+60)∧(True) from ⟨(by first|omega|assumption|rfl|(simp;done)|(simp;omega)|(simp_all;done)),(by first|omega|assumption|rfl|(simp;done)|(simp;omega)|(simp_all;done)),(by first|omega|assumption|rfl|(simp;done)|(simp;omega)|(simp_all;done)),trivial⟩) (⟨.inl rfl,trivial⟩) (.agg [I v_1,I v_2,I (v_1+v_3),I v_7]) (by kernel_rfl) (.inl rfl) (fun _=>rfl) (fun _=>(by simp [Zah,Zag]))
    refine x_q [(0,.dec false)] [0,2,5,34] [2,5,7001] [_] ⟨h2,trivial⟩ (Zac (Zhn (Zbn (Zbm 0 (Zac ?_)))))
    refine xR [] [2] [2,7001] [.ref 2 0] [some (.box [I v_1,I v_2,I (v_1+v_3),I (v_2+v_4)]),some (Zaa s'_5)] [] trivial (Zby ?_)
    refine Zbd ((Box.mk v_1 v_2 (v_1+v_3) (v_2+v_4)),s'_5) (show (Zba s'_5)∧(s'_5.code=s.code)∧(s.atx+0≤s'_5.atx∧s'_5.atx≤s.atx+60)∧(True) from ⟨(by first|omega|assumption|rfl|(simp;done)|(simp;omega)|(simp_all;done)),(by first|omega|assumption|rfl|(simp;done)|(simp;omega)|(simp_all;done)),(by first|omega|assumption|rfl|(simp;done)|(simp;omega)|(simp_all;done)),trivial⟩) (⟨.inl rfl,trivial⟩) (.agg [I v_1,I v_2,I (v_1+v_3),I (v_2+v_4)]) (by kernel_rfl) (.inl rfl) (fun _=>rfl) (fun _=>(by simp [Zah,Zag]))
  obtain ⟨⟨v,s'⟩,⟨hh0,hh1,hh2,_⟩,hc⟩:=hh
  exact ⟨v,s',hh0,hh1,hh2,hc⟩
theorem Zmh (s:l00Src) (hs:Zba s) (ha:s.atx≤3999999999999999000):∃(v:List Box) (s':l00Src),(v.length≤100)∧(Zba s')∧(s'.code=s.code)∧(s.atx+0≤s'.atx∧s'.atx≤s.atx+600)∧(smD v)∧Zao Try.prog 30 [.ref 7001 0] (Zab [(7001,Zaa s)]) true (Zae true v) (Zab [(7001,Zaa s')]):=by
  have hh:∃r:(List Box)×l00Src,((r.1.length≤100)∧(Zba r.2)∧(r.2.code=s.code)∧(s.atx+0≤r.2.atx∧r.2.atx≤s.atx+600)∧(smD r.1)∧(True))∧Zao Try.prog 30 [.ref 7001 0] (Zab [(7001,Zaa s)]) true (Zae true r.1) (Zab [(7001,Zaa r.2)]):=by
    refine Zcp (Φ:=fun r:(List Box)×l00Src=>(r.1.length≤100)∧(Zba r.2)∧(r.2.code=s.code)∧(s.atx+0≤r.2.atx∧r.2.atx≤s.atx+600)∧(smD r.1)∧(True)) [(7001,Zaa s)] (fun r=>[(7001,Zaa r.2)]) (fn:=Try.f30) (nt:=28) Try.func30 rfl rfl (args:=[.ref 7001 0]) rfl (Zap (.inr trivial) Zco) (res:=fun r=>Zae true r.1) ?_
    refine xQ [] [0] [7001] [] trivial (Zam ?_)
    obtain ⟨s'_1,bs_1,hx1_0,hx1_1,hx1_2,hx1_3,hx1_4,hc1⟩:=Ztc s (by first|assumption|(simp only [Zba] at*;simp_all;done)) om
    refine x_q [(1,.lend [(7001,Zaa s,Zaa s'_1)] [(8231,Zjj bs_1)] [(true,.any)] false (.arr 8231))] [0,3] [7001,8231] [Zao Try.prog 38 [.ref 7001 0] (Zab [(7001,Zaa s)]) false (.arr 8231) (Zab [(7001,Zaa s'_1),(8231,Zjj bs_1)])∧(((Zaa s:Ob)=Zaa s∨Zef Zdl true (Zaa s) (Zaa s))∧Zan false (Zaa s))∧True] ⟨⟨hc1,⟨.inl rfl,(by simp [Zan,Zag,Zah,Zct])⟩,trivial⟩,trivial⟩ (Zac (Zam (Zam ?_)))
    obtain ⟨v_2,s'_2,hx2_0,hx2_1,hx2_2,hx2_3,hc2⟩:=Zdh s'_1 24 (by first|assumption|(simp only [Zba] at*;simp_all;done)) om
    refine x_q [(1,.lend [(7001,Zaa s'_1,Zaa s'_2)] [] [(true,.any),(true,.any)] true (I v_2))] [0,3,7] [7001,8231] [Zao Try.prog 39 [.ref 7001 0,I 24] (Zab [(7001,Zaa s'_1)]) true (I v_2) (Zab [(7001,Zaa s'_2)])∧(((Zaa s'_1:Ob)=Zaa s'_1∨Zef Zdl true (Zaa s'_1) (Zaa s'_1))∧Zan false (Zaa s'_1))∧True] ⟨⟨hc2,⟨.inl rfl,(by simp [Zan,Zag,Zah,Zct])⟩,trivial⟩,trivial⟩ (Zac (Zbg (Zam ?_)))
    by_cases h1:v_2=0
    ·refine x_r [(0,.dec true)] [0,3,7,8] [7001,8231] [.ref 7001 0,.arr 8231,I v_2,Bv true] [some (Zaa s'_2),some (Zjj bs_1)] [_] ⟨h1,trivial⟩ (Zac (Zgs rfl ?_))
     obtain ⟨v_3,s'_3,hx3_0,hx3_1,hx3_2,hc3⟩:=Zpv s'_2 (by first|assumption|(simp only [Zba] at*;simp_all;done)) om
     refine x_q [(2,.lend [(7001,Zaa s'_2,Zaa s'_3)] [] [(true,.any)] true (Zkl v_3)),(3,.new 13),(4,.new 14)] [3] [14,7001] [Zao Try.prog 59 [.ref 7001 0] (Zab [(7001,Zaa s'_2)]) true (Zkl v_3) (Zab [(7001,Zaa s'_3)])∧(((Zaa s'_2:Ob)=Zaa s'_2∨Zef Zdl true (Zaa s'_2) (Zaa s'_2))∧Zan false (Zaa s'_2))∧True,(bs_1.length+1)*32≤140737488355328] ⟨⟨hc3,⟨.inl rfl,(by simp [Zan,Zag,Zah,Zct])⟩,trivial⟩,om,trivial⟩ (Zbm 0 (Zac ?_))
     refine xR [] [2] [14,7001] [.arr 14] [some (.arr 4 (bs_1.length+1) (Zeg bs_1.length (Zdr bs_1) (Zeo [I v_3.X1,I v_3.Y1,I v_3.X2,I v_3.Y2] 4))),some (Zaa s'_3)] [] trivial (Zby ?_)
     refine Zbd ((bs_1++[v_3]),s'_3) (show ((bs_1++[v_3]).length≤100)∧(Zba s'_3)∧(s'_3.code=s.code)∧(s.atx+0≤s'_3.atx∧s'_3.atx≤s.atx+600)∧(smD (bs_1++[v_3]))∧(True) from ⟨(by first|omega|assumption|rfl|(simp;done)|(simp;omega)|(simp_all;done)|exact .inl (by simp;omega)|exact .inl om|exact Zcz _ _ om),(by first|omega|assumption|rfl|(simp;done)|(simp;omega)|(simp_all;done)|exact .inl (by simp;omega)|exact .inl om|exact Zcz _ _ om),(by first|omega|assumption|rfl|(simp;done)|(simp;omega)|(simp_all;done)|exact .inl (by simp;omega)|exact .inl om|exact Zcz _ _ om),(by first|omega|assumption|rfl|(simp;done)|(simp;omega)|(simp_all;done)|exact .inl (by simp;omega)|exact .inl om|exact Zcz _ _ om),(by first|omega|assumption|rfl|(simp;done)|(simp;omega)|(simp_all;done)|exact .inl (by simp;omega)|exact .inl om|exact Zcz _ _ om),trivial⟩) (⟨.inl rfl,trivial⟩) (.arr 14) (by kernel_rfl) (.inr ⟨(fun _=>rfl),rfl,(by first|rfl|(simp;done)|(simp;omega)|omega),fun i_ hi_=> .inl (Zdm (enc:=Znw) (xs:=bs_1) rfl i_ hi_)⟩) (fun _=>rfl) (fun _=>(Zbo true _))
    refine x_q [(0,.dec false)] [0,3,7,8] [7001,8231] [_] ⟨h1,trivial⟩ (Zac (Zhn (Zam ?_)))
    by_cases h2:v_2=1
    ·refine x_q [(0,.dec true)] [0,3,7,15] [7001,8231] [_] ⟨h2,trivial⟩ (Zac (Zel ?_))
     refine x_q [(2,.new 19),(3,.new 20)] [3] [20,7001] [(bs_1.length+1)*32≤140737488355328] ⟨om,trivial⟩ (Zbm 0 (Zac ?_))
     refine xR [] [2] [20,7001] [.arr 20] [some (.arr 4 (bs_1.length+1) (Zeg bs_1.length (Zdr bs_1) (Zeo [I 5,I 0,I 4,I 0] 4))),some (Zaa s'_2)] [] trivial (Zby ?_)
     refine Zbd ((bs_1++[(Box.mk 5 0 4 0)]),s'_2) (show ((bs_1++[(Box.mk 5 0 4 0)]).length≤100)∧(Zba s'_2)∧(s'_2.code=s.code)∧(s.atx+0≤s'_2.atx∧s'_2.atx≤s.atx+600)∧(smD (bs_1++[(Box.mk 5 0 4 0)]))∧(True) from ⟨(by first|omega|assumption|rfl|(simp;done)|(simp;omega)|(simp_all;done)|exact .inl (by simp;omega)|exact .inl om|exact Zcz _ _ om),(by first|omega|assumption|rfl|(simp;done)|(simp;omega)|(simp_all;done)|exact .inl (by simp;omega)|exact .inl om|exact Zcz _ _ om),(by first|omega|assumption|rfl|(simp;done)|(simp;omega)|(simp_all;done)|exact .inl (by simp;omega)|exact .inl om|exact Zcz _ _ om),(by first|omega|assumption|rfl|(simp;done)|(simp;omega)|(simp_all;done)|exact .inl (by simp;omega)|exact .inl om|exact Zcz _ _ om),(by first|omega|assumption|rfl|(simp;done)|(simp;omega)|(simp_all;done)|exact .inl (by simp;omega)|exact .inl om|exact Zcz _ _ om),trivial⟩) (⟨.inl rfl,trivial⟩) (.arr 20) (by kernel_rfl) (.inr ⟨(fun _=>rfl),rfl,(by first|rfl|(simp;done)|(simp;omega)|omega),fun i_ hi_=> .inl (Zdm (enc:=Znw) (xs:=bs_1) rfl i_ hi_)⟩) (fun _=>rfl) (fun _=>(Zbo true _))
    refine x_q [(0,.dec false)] [0,3,7,15] [7001,8231] [_] ⟨h2,trivial⟩ (Zac (Zhn (Zam ?_)))
    by_cases h3:v_2=2
    ·refine x_q [(0,.dec true)] [0,3,21] [7001,8231] [_] ⟨h3,trivial⟩ (Zac (Zel ?_))
     obtain ⟨v_4,s'_4,hx4_0,hx4_1,hx4_2,hx4_3,hc4⟩:=Zdh s'_2 2 (by first|assumption|(simp only [Zba] at*;simp_all;done)) om
     refine x_q [(1,.lend [(7001,Zaa s'_2,Zaa s'_4)] [] [(true,.any),(true,.any)] true (I v_4)),(3,.new 26)] [3] [26,7001] [Zao Try.prog 39 [.ref 7001 0,I 2] (Zab [(7001,Zaa s'_2)]) true (I v_4) (Zab [(7001,Zaa s'_4)])∧(((Zaa s'_2:Ob)=Zaa s'_2∨Zef Zdl true (Zaa s'_2) (Zaa s'_2))∧Zan false (Zaa s'_2))∧True,inR .i64 (60+v_4),(0:Int)≤(60+v_4)∧((60+v_4):Int)≤(60+v_4)∧(32:Int)*(60+v_4)≤281474976710656∧(60+v_4)≤9223372036854775807] ⟨⟨hc4,⟨.inl rfl,(by simp [Zan,Zag,Zah,Zct])⟩,trivial⟩,(Zaf om om),⟨om,om,om,om⟩,trivial⟩ (Zbm 0 (Zac ?_))
     refine xR [] [2] [26,7001] [.arr 26] [some (.arr 4 ((60+v_4).toNat) (fun _=>[I 0,I 0,I 0,I 0])),some (Zaa s'_4)] [] trivial (Zby ?_)
     refine Zbd ((List.replicate ((60+v_4).toNat) (Box.mk 0 0 0 0)),s'_4) (show ((List.replicate ((60+v_4).toNat) (Box.mk 0 0 0 0)).length≤100)∧(Zba s'_4)∧(s'_4.code=s.code)∧(s.atx+0≤s'_4.atx∧s'_4.atx≤s.atx+600)∧(smD (List.replicate ((60+v_4).toNat) (Box.mk 0 0 0 0)))∧(True) from ⟨(by first|omega|assumption|rfl|(simp;done)|(simp;omega)|(simp_all;done)|exact .inl (by simp;omega)|exact .inl om|exact Zcz _ _ om),(by first|omega|assumption|rfl|(simp;done)|(simp;omega)|(simp_all;done)|exact .inl (by simp;omega)|exact .inl om|exact Zcz _ _ om),(by first|omega|assumption|rfl|(simp;done)|(simp;omega)|(simp_all;done)|exact .inl (by simp;omega)|exact .inl om|exact Zcz _ _ om),(by first|omega|assumption|rfl|(simp;done)|(simp;omega)|(simp_all;done)|exact .inl (by simp;omega)|exact .inl om|exact Zcz _ _ om),(by first|omega|assumption|rfl|(simp;done)|(simp;omega)|(simp_all;done)|exact .inl (by simp;omega)|exact .inl om|exact Zcz _ _ om),trivial⟩) (⟨.inl rfl,trivial⟩) (.arr 26) (by kernel_rfl) (.inr ⟨(fun _=>rfl),rfl,(by first|rfl|(simp;done)|(simp;omega)|omega),fun i_ hi_=> .inl (Zwh (enc:=Znw) rfl i_ hi_)⟩) (fun _=>rfl) (fun _=>(Zbo true _))
    refine x_q [(0,.dec false)] [0,3,21] [7001,8231] [_] ⟨h3,trivial⟩ (Zac (Zhn (Zbn (Zbm 0 (Zac ?_)))))
    refine xR [] [2] [7001,8231] [.arr 8231] [some (Zaa s'_2),some (Zjj bs_1)] [] trivial (Zby ?_)
    refine Zbd (bs_1,s'_2) (show (bs_1.length≤100)∧(Zba s'_2)∧(s'_2.code=s.code)∧(s.atx+0≤s'_2.atx∧s'_2.atx≤s.atx+600)∧(smD bs_1)∧(True) from ⟨(by first|omega|assumption|rfl|(simp;done)|(simp;omega)|(simp_all;done)|exact .inl (by simp;omega)|exact .inl om|exact Zcz _ _ om),(by first|omega|assumption|rfl|(simp;done)|(simp;omega)|(simp_all;done)|exact .inl (by simp;omega)|exact .inl om|exact Zcz _ _ om),(by first|omega|assumption|rfl|(simp;done)|(simp;omega)|(simp_all;done)|exact .inl (by simp;omega)|exact .inl om|exact Zcz _ _ om),(by first|omega|assumption|rfl|(simp;done)|(simp;omega)|(simp_all;done)|exact .inl (by simp;omega)|exact .inl om|exact Zcz _ _ om),(by first|omega|assumption|rfl|(simp;done)|(simp;omega)|(simp_all;done)|exact .inl (by simp;omega)|exact .inl om|exact Zcz _ _ om),trivial⟩) (⟨.inl rfl,trivial⟩) (.arr 8231) (by kernel_rfl) (.inr ⟨(fun _=>rfl),rfl,rfl,fun i _=> .inl rfl⟩) (fun _=>rfl) (fun _=>(Zbo true _))
  obtain ⟨⟨v,s'⟩,⟨hh0,hh1,hh2,hh3,hh4,_⟩,hc⟩:=hh
  exact ⟨v,s',hh0,hh1,hh2,hh3,hh4,hc⟩
theorem Zen (n:Int) (low:Int) (high:Int):Con Try.prog 46 [I n,I low,I high] true (Bv (inB n low high)):=by
  refine Zda (fn:=Try.f46) (nt:=15) Try.func46 rfl rfl rfl rfl (by simp [Zag,Zah]) fun B hB=> ?_
  refine aQ [] [0,1,2] [] [] hB trivial (Zai ?_)
  by_cases h1:low≤n
  ·refine Zei [(2,.dec true)] [6] [] [Bv (decide (n≤high))] [] [_] hB ⟨h1,trivial⟩ (Zad (Zaz ?_))
   refine Zax hB (Bv (decide (n≤high))) (by kernel_rfl) (.inl (by first|rfl|(refine congrArg Bv ?_;simp [inB, *];done)|(refine congrArg Bv ?_;simp [inB, *];omega)|(refine congrArg Bv ?_;simp_all [inB];done)|(refine congrArg Bv ?_;simp_all [inB];omega))) rfl (fun _=>trivial)
  refine Zei [(2,.dec false)] [6] [] [Bv false] [] [_] hB ⟨h1,trivial⟩ (Zad (Zaz ?_))
  refine Zax hB (Bv false) (by kernel_rfl) (.inl (by first|rfl|(refine congrArg Bv ?_;simp [inB, *];done)|(refine congrArg Bv ?_;simp [inB, *];omega)|(refine congrArg Bv ?_;simp_all [inB];done)|(refine congrArg Bv ?_;simp_all [inB];omega))) rfl (fun _=>trivial)
theorem Zrq (b:Box):Con Try.prog 68 [Zkl b] true (Bv (Zdp b)):=by
  refine Zda (fn:=Try.f68) (nt:=25) Try.func68 rfl rfl rfl rfl (by simp [Zag,Zah]) fun B hB=> ?_
  refine aQ [(0,.new 1)] [1] [1] [] hB trivial (Zai ?_)
  rcases Bool.eq_false_or_eq_true (inB b.X1 0 b.X2) with h1|h1
  ·rcases Bool.eq_false_or_eq_true (inB b.Y1 0 b.Y2) with h2|h2
   ·by_cases h3:b.X2≤4095
    ·refine Zei [(4,.call [(true,.any),(true,.any),(true,.any)] true (Bv true)),(10,.call [(true,.any),(true,.any),(true,.any)] true (Bv true)),(15,.dec true)] [2] [] [Bv (decide (b.Y2≤4095))] [] [Con Try.prog 46 [I b.X1,I 0,I b.X2] true (Bv true)∧True,Con Try.prog 46 [I b.Y1,I 0,I b.Y2] true (Bv true)∧True,_] hB ⟨⟨(Zak h1 (Zen b.X1 0 b.X2)),trivial⟩,⟨(Zak h2 (Zen b.Y1 0 b.Y2)),trivial⟩,h3,trivial⟩ (Zad (Zaz ?_))
     refine Zax hB (Bv (decide (b.Y2≤4095))) (by kernel_rfl) (.inl (by first|rfl|(refine congrArg Bv ?_;simp [Zdp,inB, *];done)|(refine congrArg Bv ?_;simp [Zdp,inB, *];omega)|(refine congrArg Bv ?_;simp_all [Zdp,inB];done)|(refine congrArg Bv ?_;simp_all [Zdp,inB];omega))) rfl (fun _=>trivial)
    refine Zei [(4,.call [(true,.any),(true,.any),(true,.any)] true (Bv true)),(10,.call [(true,.any),(true,.any),(true,.any)] true (Bv true)),(15,.dec false)] [2] [] [Bv false] [] [Con Try.prog 46 [I b.X1,I 0,I b.X2] true (Bv true)∧True,Con Try.prog 46 [I b.Y1,I 0,I b.Y2] true (Bv true)∧True,_] hB ⟨⟨(Zak h1 (Zen b.X1 0 b.X2)),trivial⟩,⟨(Zak h2 (Zen b.Y1 0 b.Y2)),trivial⟩,h3,trivial⟩ (Zad (Zaz ?_))
    refine Zax hB (Bv false) (by kernel_rfl) (.inl (by first|rfl|(refine congrArg Bv ?_;simp [Zdp,inB, *];done)|(refine congrArg Bv ?_;simp [Zdp,inB, *];omega)|(refine congrArg Bv ?_;simp_all [Zdp,inB];done)|(refine congrArg Bv ?_;simp_all [Zdp,inB];omega))) rfl (fun _=>trivial)
   refine Zei [(4,.call [(true,.any),(true,.any),(true,.any)] true (Bv true)),(10,.call [(true,.any),(true,.any),(true,.any)] true (Bv false))] [2] [] [Bv false] [] [Con Try.prog 46 [I b.X1,I 0,I b.X2] true (Bv true)∧True,Con Try.prog 46 [I b.Y1,I 0,I b.Y2] true (Bv false)∧True] hB ⟨⟨(Zak h1 (Zen b.X1 0 b.X2)),trivial⟩,⟨(Zak h2 (Zen b.Y1 0 b.Y2)),trivial⟩,trivial⟩ (Zad (Zaz ?_))
   refine Zax hB (Bv false) (by kernel_rfl) (.inl (by first|rfl|(refine congrArg Bv ?_;simp [Zdp,inB, *];done)|(refine congrArg Bv ?_;simp [Zdp,inB, *];omega)|(refine congrArg Bv ?_;simp_all [Zdp,inB];done)|(refine congrArg Bv ?_;simp_all [Zdp,inB];omega))) rfl (fun _=>trivial)
  refine Zei [(4,.call [(true,.any),(true,.any),(true,.any)] true (Bv false))] [2] [] [Bv false] [] [Con Try.prog 46 [I b.X1,I 0,I b.X2] true (Bv false)∧True] hB ⟨⟨(Zak h1 (Zen b.X1 0 b.X2)),trivial⟩,trivial⟩ (Zad (Zaz ?_))
  refine Zax hB (Bv false) (by kernel_rfl) (.inl (by first|rfl|(refine congrArg Bv ?_;simp [Zdp,inB, *];done)|(refine congrArg Bv ?_;simp [Zdp,inB, *];omega)|(refine congrArg Bv ?_;simp_all [Zdp,inB];done)|(refine congrArg Bv ?_;simp_all [Zdp,inB];omega))) rfl (fun _=>trivial)
theorem Zdc (boxes:List Box):Con Try.prog 35 [Zae false boxes] true (Bv (Zbp boxes)):=by
  refine Zda (fn:=Try.f35) (nt:=19) Try.func35 rfl rfl rfl rfl (by simp [Zag,Zah,Zbo]) fun B hB=> ?_
  refine Zbt (x:=Zae false boxes) 0 rfl (fun len_boxes=> ?_)
  simp [Zdb,Zfv,Znw,Zdr,Zae] at len_boxes
  refine aQ [] [0] [] [] hB trivial (Zai ?_)
  refine aR [] [0,3] [] [Zae false boxes,I 0] [] [] hB trivial (Zar ?_)
  refine Zcg (fun gn gσ=>∃(i:Int),gn=((boxes.length:Int)-i).toNat∧(0≤i∧i≤(boxes.length:Int))∧(∀j:Nat,(j:Int)<i→Zdp (at_ boxes j)=true)∧gσ=mkS [(0,Zae false boxes),(3,I i)] []) (((boxes.length:Int)-0).toNat) ⟨0,rfl,om,(by intro j hj;omega),rfl⟩ (fun gn gσ hI=> ?_)
  obtain ⟨i,rfl,hi0,hall0,rfl⟩:=hI
  refine Zai (Zai ?_)
  by_cases h1:i<(boxes.length:Int)
  ·have hi:i.toNat<boxes.length:=by omega
   refine Zbz [(3,.dec true)] [0,3,7] [] [_] hB ⟨h1,trivial⟩ (Zad (Zcf (Zaq (Zad (Zai (Zar (Zai ?_)))))))
   rcases Bool.eq_false_or_eq_true (Zdp (at_ boxes i.toNat)) with h2|h2
   ·refine Zbz [(4,.call [(true,.any)] true (Bv true))] [0,3,15] [] [(0:Int)≤i∧i<(boxes.length:Int),Con Try.prog 68 [Zkl (at_ boxes i.toNat)] true (Bv true)∧True] hB ⟨⟨om,om⟩,⟨(Zak h2 (Zrq (at_ boxes i.toNat))),trivial⟩,trivial⟩ (Zad (Zbw (Zaq (Zbq 1 (Zad ?_)))))
    refine Zei [] [0,3] [] [Zae false boxes,I (i+1)] [] [inR .i64 (i+1)] hB ⟨(Zaf om om),trivial⟩ ?_
    exact Zbr _ om ⟨(i+1),rfl,om,(by intro j hj;by_cases ej:j=i.toNat;(subst ej;first|assumption|exact hok);exact hall0 j om),rfl⟩
   have hall:Zpy boxes.length (fun j=>Zdp (at_ boxes j))=false:=Zgm hi h2
   refine Zbz [(4,.call [(true,.any)] true (Bv false))] [0,3,15] [] [(0:Int)≤i∧i<(boxes.length:Int),Con Try.prog 68 [Zkl (at_ boxes i.toNat)] true (Bv false)∧True] hB ⟨⟨om,om⟩,⟨(Zak h2 (Zrq (at_ boxes i.toNat))),trivial⟩,trivial⟩ (Zad (Zcf ?_))
   refine aR [] [2] [] [Bv false] [] [] hB trivial (Zaz ?_)
   refine Zau (Zal (Zal (Zau (Zal ?_))))
   refine Zax hB (Bv false) (by kernel_rfl) (.inl (by simp [Zbp, *])) rfl (fun _=>trivial)
  have hall:Zpy boxes.length (fun j=>Zdp (at_ boxes j))=true:=Zhh (fun j hj=>hall0 j om)
  refine Zbz [(3,.dec false)] [0,3,7] [] [_] hB ⟨h1,trivial⟩ (Zad (Zbw (Zcl (Zaj (Zaj (Zav (Zad ?_)))))))
  refine aR [] [2] [] [Bv (decide ((boxes.length:Int)≤60))] [] [] hB trivial (Zaz ?_)
  refine Zax hB (Bv (decide ((boxes.length:Int)≤60))) (by kernel_rfl) (.inl (by simp [Zbp, *])) rfl (fun _=>trivial)
theorem Zuy (s:l00Src) (n:Int) (hs:Zba s) (ha:s.atx≤3999999999999999980):∃(v:Bool) (s':l00Src),(Zba s')∧(s'.code=s.code)∧(s.atx+0≤s'.atx∧s'.atx≤s.atx+2)∧Zao Try.prog 41 [.ref 7001 0,I n] (Zab [(7001,Zaa s)]) true (Bv v) (Zab [(7001,Zaa s')]):=by
 have hh:∃r:Bool×l00Src,((Zba r.2)∧(r.2.code=s.code)∧(s.atx+0≤r.2.atx∧r.2.atx≤s.atx+2)∧(True))∧Zao Try.prog 41 [.ref 7001 0,I n] (Zab [(7001,Zaa s)]) true (Bv r.1) (Zab [(7001,Zaa r.2)]):=by
  refine Zcp (Φ:=fun r:Bool×l00Src=>(Zba r.2)∧(r.2.code=s.code)∧(s.atx+0≤r.2.atx∧r.2.atx≤s.atx+2)∧(True)) [(7001,Zaa s)] (fun r=>[(7001,Zaa r.2)]) (fn:=Try.f41) (nt:=9) Try.func41 rfl rfl (args:=[.ref 7001 0,I n]) rfl (Zap (.inr trivial) (Zap (.inl ⟨rfl,trivial⟩) Zco)) (res:=fun r=>Bv r.1) ?_
  refine xQ [] [0,1] [7001] [] trivial (Zam ?_)
  obtain ⟨v_1,s'_1,hx1_0,hx1_1,hx1_2,hx1_3,hc1⟩:=Zdh s n (by first|assumption|(simp only [Zba] at*;simp_all;done)) om
  refine x_r [(2,.lend [(7001,Zaa s,Zaa s'_1)] [] [(true,.any),(true,.any)] true (I v_1))] [4] [7001] [Bv (decide (v_1=0))] [some (Zaa s'_1)] [Zao Try.prog 39 [.ref 7001 0,I n] (Zab [(7001,Zaa s)]) true (I v_1) (Zab [(7001,Zaa s'_1)])∧(((Zaa s:Ob)=Zaa s∨Zef Zdl true (Zaa s) (Zaa s))∧Zan false (Zaa s))∧True] ⟨⟨hc1,⟨.inl rfl,(by simp [Zan,Zag,Zah,Zct])⟩,trivial⟩,trivial⟩ (Zac (Zby ?_))
  refine Zbd (decide (v_1=0),s'_1) (show (Zba s'_1)∧(s'_1.code=s.code)∧(s.atx+0≤s'_1.atx∧s'_1.atx≤s.atx+2)∧(True) from ⟨(by first|omega|rfl|assumption|(dsimp only;first|omega|rfl|assumption)|(simp only [*];done)|(simp_all;done)),(by first|omega|rfl|assumption|(dsimp only;first|omega|rfl|assumption)|(simp only [*];done)|(simp_all;done)),(by first|omega|rfl|assumption|(dsimp only;first|omega|rfl|assumption)|(simp only [*];done)|(simp_all;done)),trivial⟩) (⟨.inl rfl,trivial⟩) (Bv (decide (v_1=0))) (by kernel_rfl) (.inl rfl) (fun _=>rfl) (fun _=>trivial)
 obtain ⟨⟨v,s'⟩,⟨hh0,hh1,hh2,_⟩,hc⟩:=hh
 exact ⟨v,s',hh0,hh1,hh2,hc⟩
theorem Zgp (boxes:List Box) (a:Int) (b:Int) (ha:0≤a∧a<(boxes.length:Int)) (hb:0≤b∧b<(boxes.length:Int)):Con Try.prog 74 [Zae false boxes,I a,I b] true (Bv (lftB boxes a b)):=by
  refine Zda (fn:=Try.f74) (nt:=42) Try.func74 rfl rfl rfl rfl (by simp [Zag,Zah,Zbo]) fun B hB=> ?_
  refine Zbt (x:=Zae false boxes) 0 rfl (fun len_boxes=> ?_)
  simp [Zdb,Zfv,Znw,Zdr,Zae] at len_boxes
  refine aQ [] [0,1,2] [] [] hB trivial ?_
  refine aQ [(4,.new 7)] [0,1,2,7] [7] [(0:Int)≤a∧a<(boxes.length:Int)] hB ⟨⟨om,om⟩,trivial⟩ ?_
  refine aQ [(4,.new 8)] [1,2,7,8] [7,8] [(0:Int)≤b∧b<(boxes.length:Int)] hB ⟨⟨om,om⟩,trivial⟩ (Zai (Zar (Zai ?_)))
  by_cases h1:((at_ boxes a.toNat).X1)=((at_ boxes b.toNat).X1)
  ·refine Zei [(4,.dec false)] [1,2,7,8,17] [7,8] [I a,I b,.ref 7 0,.ref 8 0,Bv false] [some (Zhf (at_ boxes a.toNat)),some (Zhf (at_ boxes b.toNat))] [¬ (((at_ boxes a.toNat).X1)≠((at_ boxes b.toNat).X1))] hB ⟨(fun hq=>hq h1),trivial⟩ (Zad (Zds rfl (Zai ?_)))
   by_cases h2:((at_ boxes a.toNat).X2)=((at_ boxes b.toNat).X2)
   ·refine Zbz [(4,.dec false)] [1,2,7,8,28] [7,8] [¬ (((at_ boxes a.toNat).X2)≠((at_ boxes b.toNat).X2))] hB ⟨(fun hq=>hq h2),trivial⟩ (Zad (Zbw (Zaq (Zbq 0 (Zad ?_)))))
    refine aR [] [6] [] [Bv (decide (a<b))] [] [] hB trivial (Zaz ?_)
    refine Zax hB (Bv (decide (a<b))) (by kernel_rfl) (.inl (by first|(refine congrArg Bv (decide_eq_decide.2 ?_);rw [Znb];omega)|(refine congrArg Bv (Eq.symm (decide_eq_true ?_));rw [Znb];omega)|(refine congrArg Bv (Eq.symm (decide_eq_false ?_));rw [Znb];omega))) rfl (fun _=>trivial)
   refine Zbz [(4,.dec true)] [1,2,7,8,28] [7,8] [_] hB ⟨h2,trivial⟩ (Zad (Zcf ?_))
   refine aR [] [6] [] [Bv (decide (((at_ boxes a.toNat).X2)<((at_ boxes b.toNat).X2)))] [] [] hB trivial (Zaz ?_)
   refine Zau (Zal ?_)
   refine Zax hB (Bv (decide (((at_ boxes a.toNat).X2)<((at_ boxes b.toNat).X2)))) (by kernel_rfl) (.inl (by first|(refine congrArg Bv (decide_eq_decide.2 ?_);rw [Znb];omega)|(refine congrArg Bv (Eq.symm (decide_eq_true ?_));rw [Znb];omega)|(refine congrArg Bv (Eq.symm (decide_eq_false ?_));rw [Znb];omega))) rfl (fun _=>trivial)
  refine Zbz [(4,.dec true)] [1,2,7,8,17] [7,8] [_] hB ⟨h1,trivial⟩ (Zad (Zcf ?_))
  refine aR [] [6] [] [Bv (decide (((at_ boxes a.toNat).X1)<((at_ boxes b.toNat).X1)))] [] [] hB trivial (Zaz ?_)
  refine Zau (Zal ?_)
  refine Zax hB (Bv (decide (((at_ boxes a.toNat).X1)<((at_ boxes b.toNat).X1)))) (by kernel_rfl) (.inl (by first|(refine congrArg Bv (decide_eq_decide.2 ?_);rw [Znb];omega)|(refine congrArg Bv (Eq.symm (decide_eq_true ?_));rw [Znb];omega)|(refine congrArg Bv (Eq.symm (decide_eq_false ?_));rw [Znb];omega))) rfl (fun _=>trivial)
theorem Zgr (boxes:List Box) (a:Int) (b:Int) (ha:0≤a∧a<(boxes.length:Int)) (hb:0≤b∧b<(boxes.length:Int)):Con Try.prog 82 [Zae false boxes,I a,I b] true (Bv (hghB boxes a b)):=by
  refine Zda (fn:=Try.f82) (nt:=32) Try.func82 rfl rfl rfl rfl (by simp [Zag,Zah,Zbo]) fun B hB=> ?_
  refine Zbt (x:=Zae false boxes) 0 rfl (fun len_boxes=> ?_)
  simp [Zdb,Zfv,Znw,Zdr,Zae] at len_boxes
  refine aQ [] [0,1,2] [] [] hB trivial (Zai (Zai ?_))
  by_cases h1:((at_ boxes a.toNat).Y1)=((at_ boxes b.toNat).Y1)
  ·refine Zbz [(10,.dec false)] [0,1,2,17] [] [(0:Int)≤a∧a<(boxes.length:Int),(0:Int)≤b∧b<(boxes.length:Int),¬ (((at_ boxes a.toNat).Y1)≠((at_ boxes b.toNat).Y1))] hB ⟨⟨om,om⟩,⟨om,om⟩,(fun hq=>hq h1),trivial⟩ (Zad (Zbw (Zaq (Zad ?_))))
   refine aR [] [6] [] [Bv (decide (a<b))] [] [] hB trivial (Zaz ?_)
   refine Zax hB (Bv (decide (a<b))) (by kernel_rfl) (.inl (by first|(refine congrArg Bv (decide_eq_decide.2 ?_);rw [Zta];omega)|(refine congrArg Bv (Eq.symm (decide_eq_true ?_));rw [Zta];omega)|(refine congrArg Bv (Eq.symm (decide_eq_false ?_));rw [Zta];omega))) rfl (fun _=>trivial)
  refine Zbz [(10,.dec true)] [0,1,2,17] [] [(0:Int)≤a∧a<(boxes.length:Int),(0:Int)≤b∧b<(boxes.length:Int),_] hB ⟨⟨om,om⟩,⟨om,om⟩,h1,trivial⟩ (Zad (Zcf ?_))
  refine aR [] [6] [] [Bv (decide (((at_ boxes a.toNat).Y1)<((at_ boxes b.toNat).Y1)))] [] [(0:Int)≤a∧a<(boxes.length:Int),(0:Int)≤b∧b<(boxes.length:Int)] hB ⟨⟨om,om⟩,⟨om,om⟩,trivial⟩ (Zaz (Zal ?_))
  refine Zax hB (Bv (decide (((at_ boxes a.toNat).Y1)<((at_ boxes b.toNat).Y1)))) (by kernel_rfl) (.inl (by first|(refine congrArg Bv (decide_eq_decide.2 ?_);rw [Zta];omega)|(refine congrArg Bv (Eq.symm (decide_eq_true ?_));rw [Zta];omega)|(refine congrArg Bv (Eq.symm (decide_eq_false ?_));rw [Zta];omega))) rfl (fun _=>trivial)
theorem Zjk (list:List Int) (hl:list.length≤100000):∃(out:List Int),(out=list)∧Zao Try.prog 40 [slI false list] (Zab []) false (.arr 8201) (Zab [(8201,tAI out)]):=by
 have hh:∃r:(List Int),((r=list)∧(True))∧Zao Try.prog 40 [slI false list] (Zab []) false (.arr 8201) (Zab [(8201,tAI r)]):=by
  refine Zcp (Φ:=fun r:(List Int)=>(r=list)∧(True)) [] (fun r=>[(8201,tAI r)]) (fn:=Try.f40) (nt:=6) Try.func40 rfl rfl (args:=[slI false list]) rfl (Zap (.inl ⟨rfl,Zft false _⟩) Zco) (res:=fun r=> .arr 8201) ?_
  refine xQ [] [0] [] [] trivial ?_
  refine xR [(0,.new 3),(2,.new 5)] [2] [5] [.arr 5] [some (.arr 1 (0+list.length) (Zeg 0 (Zeo [] 1) (fI list)))] [(0+list.length)*8≤140737488355328] ⟨om,trivial⟩ (Zby ?_)
  refine Zcb [(8201,5)] (T:=[(2,.arr 8201)]) (O:=[(8201,tAI list)]) rfl (⟨.inl rfl,trivial⟩) (⟨.inr ⟨rfl,(by first|rfl|(simp;done)|(simp;omega)|omega),fun i_ hi_=> .inl (cat_nil i_)⟩,trivial⟩) ?_
  refine Zbd list (show (list=list)∧(True) from ⟨(by first|rfl|simp),trivial⟩) (⟨.inl rfl,trivial⟩) (.arr 8201) (by kernel_rfl) (.inl rfl) (fun h=>by cases h) (fun h=>by cases h)
 obtain ⟨out,⟨hh0,_⟩,hc⟩:=hh
 exact ⟨out,hh0,hc⟩
theorem Zjy (boxes:List Box) (list:List Int) (k:Int) (high:Bool) (hl:list.length≤1000) (hk:0≤k∧k<(boxes.length:Int)) (hx:Zvv boxes.length list):∃(out:List Int),(out=Zmn (if high=true then cH boxes else cL boxes) list k)∧Zao Try.prog 69 [Zae false boxes,slI false list,I k,Bv high] (Zab []) false (.arr 8221) (Zab [(8221,tAI out)]):=by
  have hh:∃r:(List Int),((r=Zmn (if high=true then cH boxes else cL boxes) list k)∧(True))∧Zao Try.prog 69 [Zae false boxes,slI false list,I k,Bv high] (Zab []) false (.arr 8221) (Zab [(8221,tAI r)]):=by
    refine Zcp (Φ:=fun r:(List Int)=>(r=Zmn (if high=true then cH boxes else cL boxes) list k)∧(True)) [] (fun r=>[(8221,tAI r)]) (fn:=Try.f69) (nt:=49) Try.func69 rfl rfl (args:=[Zae false boxes,slI false list,I k,Bv high]) rfl (Zap (.inl ⟨rfl,Zbo false _⟩) (Zap (.inl ⟨rfl,Zft false _⟩) (Zap (.inl ⟨rfl,trivial⟩) (Zap (.inl ⟨rfl,trivial⟩) Zco)))) (res:=fun r=> .arr 8221) ?_
    refine xQ [] [0,1,2,3] [] [] trivial ?_
    refine xR [] [0,1,2,3,9] [] [Zae false boxes,slI false list,I k,Bv high,I (list.length:Int)] [] [] trivial (Zam (Zbg ?_))
    refine Zdn (X:=Int) (fun x=>mkS [(0,Zae false boxes),(1,slI false list),(2,I k),(3,Bv high),(9,I x)] []) (fun x=>(0≤x∧x≤(list.length:Int))∧(∀j:Nat,x≤(j:Int)→j<list.length→(if high=true then cH boxes else cL boxes) k (at_ list j)<0)∧True) (fun x=>x.toNat) (list.length:Int) rfl (show (0≤(list.length:Int)∧(list.length:Int)≤(list.length:Int))∧(∀j:Nat,(list.length:Int)≤(j:Int)→j<list.length→(if high=true then cH boxes else cL boxes) k (at_ list j)<0)∧True from ⟨om,(by intro j h1 h2;omega),trivial⟩) (fun x hI=> ?_)
    obtain ⟨at_x,hxx⟩:∃at_x:Int,at_x=x:=⟨x,rfl⟩
    subst hxx
    obtain ⟨hat,hgt,_⟩:(0≤at_x∧at_x≤(list.length:Int))∧(∀j:Nat,at_x≤(j:Int)→j<list.length→(if high=true then cH boxes else cL boxes) k (at_ list j)<0)∧True:=hI
    show XW _ _ _ _ (mkS [(0,Zae false boxes),(1,slI false list),(2,I k),(3,Bv high),(9,I at_x)] []) _ _
    refine Zam (Zam ?_)
    by_cases h1:0<at_x
    ·refine x_q [(1,.dec true)] [0,1,2,3,9,15] [] [_] ⟨h1,trivial⟩ (Zac (Zel (Zbn (Zac (Zbg (Zam ?_))))))
     rcases Bool.eq_false_or_eq_true (lftB boxes k (at_ list ((at_x-1).toNat))) with h2|h2
     ·have hq1:cL boxes k (at_ list (at_x-1).toNat)<0:=of_decide_eq_true h2
      refine x_q [(7,.call [(true,.any),(true,.any),(true,.any)] true (Bv true))] [0,1,2,3,9,10] [] [inR .i64 (at_x-1),(0:Int)≤(at_x-1)∧(at_x-1)<(list.length:Int),Con Try.prog 74 [Zae false boxes,I k,I (at_ list ((at_x-1).toNat))] true (Bv true)∧True] ⟨(Zaf om om),⟨om,om⟩,⟨(Zak h2 (Zgp boxes k (at_ list ((at_x-1).toNat)) om (Zkb hx om))),trivial⟩,trivial⟩ (Zac (Zam ?_))
      refine xR [] [0,1,2,3,9,10,24] [] [Zae false boxes,slI false list,I k,Bv high,I at_x,Bv true,Bv high] [] [] trivial ?_
      rcases Bool.eq_false_or_eq_true high with h3|h3
      ·refine Zgs (congrArg Bv h3) ?_
       rcases Bool.eq_false_or_eq_true (hghB boxes k (at_ list ((at_x-1).toNat))) with h4|h4
       ·have hcp:(if high=true then cH boxes else cL boxes) k (at_ list (at_x-1).toNat)<0:=by rw [if_pos (by assumption)];exact of_decide_eq_true h4
        refine x_q [(7,.call [(true,.any),(true,.any),(true,.any)] true (Bv true))] [0,1,2,3,9,10] [] [inR .i64 (at_x-1),(0:Int)≤(at_x-1)∧(at_x-1)<(list.length:Int),Con Try.prog 82 [Zae false boxes,I k,I (at_ list ((at_x-1).toNat))] true (Bv true)∧True] ⟨(Zaf om om),⟨om,om⟩,⟨(Zak h4 (Zgr boxes k (at_ list ((at_x-1).toNat)) om (Zkb hx om))),trivial⟩,trivial⟩ (Zac (Zam ?_))
        refine xQ [] [0,1,2,3,9,34] [] [] trivial (Zhn (Zbn (Zac ?_)))
        refine x_r [] [0,1,2,3,9] [] [Zae false boxes,slI false list,I k,Bv high,I (at_x-1)] [] [inR .i64 (at_x-1)] ⟨(Zaf om om),trivial⟩ (Zbm 1 ?_)
        exact Zbu (at_x-1) rfl (show (0≤(at_x-1)∧(at_x-1)≤(list.length:Int))∧(∀j:Nat,(at_x-1)≤(j:Int)→j<list.length→(if high=true then cH boxes else cL boxes) k (at_ list j)<0)∧True from ⟨om,(by intro j h1 h2;by_cases e:(j:Int)=at_x-1;(rw [show j=(at_x-1).toNat from by omega];(first|exact hcp|(rw [if_neg (show ¬ high=true from by rw [show high=false from by assumption];decide)];exact hq1)));exact hgt j om h2),trivial⟩) (by first|(show ((at_x-1).toNat:Nat)<at_x.toNat;omega)|(dsimp only;omega))
       have hcp:¬ (if high=true then cH boxes else cL boxes) k (at_ list (at_x-1).toNat)<0:=by rw [if_pos (by assumption)];exact of_decide_eq_false h4
       refine x_q [(7,.call [(true,.any),(true,.any),(true,.any)] true (Bv false))] [0,1,2,3,9,10] [] [inR .i64 (at_x-1),(0:Int)≤(at_x-1)∧(at_x-1)<(list.length:Int),Con Try.prog 82 [Zae false boxes,I k,I (at_ list ((at_x-1).toNat))] true (Bv false)∧True] ⟨(Zaf om om),⟨om,om⟩,⟨(Zak h4 (Zgr boxes k (at_ list ((at_x-1).toNat)) om (Zkb hx om))),trivial⟩,trivial⟩ (Zac (Zam ?_))
       refine xR [] [0,1,2,3,9,34] [] [Zae false boxes,slI false list,I k,Bv high,I at_x,Bv true] [] [] trivial (Zgs rfl (Zcw (Zas ?_)))
       refine Zgd rfl ?_
       refine Zaw ?_
       refine Zat (Zac (Zam ?_))
       obtain ⟨out_1,hx1_0,hc1⟩:=Zjk (list.take at_x.toNat) (by simp only [List.length_take];omega)
       have hol_out_1:out_1.length=((list.take at_x.toNat)).length:=by rw [hx1_0]
       simp only [List.length_take,List.length_drop] at hol_out_1
       have howx:=hx1_0
       refine x_q [(3,.lend [] [(8201,tAI out_1)] [(false,slI false (list.take at_x.toNat))] false (.arr 8201)),(5,.new 42),(6,.new 43)] [1,9,11] [43] [(0:Int)≤0∧(0:Int)≤at_x∧at_x≤(list.length:Int),Zao Try.prog 40 [slI false (list.take at_x.toNat)] (Zab []) false (.arr 8201) (Zab [(8201,tAI out_1)])∧((false=true→false=true)∧1=1∧(at_x.toNat-0)=((list.take at_x.toNat).length)∧∀i_,i_<((list.take at_x.toNat).length)→(Zoi 0 (fI list)) i_=(fI (list.take at_x.toNat)) i_∨(AV.idsL ((fI (list.take at_x.toNat)) i_)=[]∧leL (fun _=>none) false ((Zoi 0 (fI list)) i_) ((fI (list.take at_x.toNat)) i_)))∧True,(out_1.length+1)*8≤140737488355328] ⟨⟨om,om,om⟩,⟨hc1,⟨(fun h=>by cases h),rfl,(by first|rfl|(simp;done)|(simp;omega)|omega),fun i_ hi_=> .inl (Zko (enc:=cI) hi_)⟩,trivial⟩,om,trivial⟩ (Zac ?_)
       refine xR [(4,.new 48)] [8] [48] [.arr 48] [some (.arr 1 ((out_1.length+1)+((list.length:Int).toNat-at_x.toNat)) (Zeg (out_1.length+1) (Zeg out_1.length (fI out_1) (Zeo [I k] 1)) (Zoi at_x.toNat (fI list))))] [(0:Int)≤at_x∧at_x≤(list.length:Int)∧(list.length:Int)≤(list.length:Int),((out_1.length+1)+((list.length:Int).toNat-at_x.toNat))*8≤140737488355328] ⟨⟨om,om,om⟩,om,trivial⟩ (Zby ?_)
       refine Zcb [(8221,48)] (T:=[(8,.arr 8221)]) (O:=[(8221,tAI ((out_1++[k])++(list.drop at_x.toNat)))]) rfl (⟨.inl rfl,trivial⟩) (⟨.inr ⟨rfl,(by first|rfl|(simp;done)|(simp;omega)|omega),fun i_ hi_=> .inl (Zpi (enc:=cI) (xs:=(out_1++[k])) (ys:=(list.drop at_x.toNat)) (by first|rfl|(simp;done)|(simp;omega)) (fun i_ hi_=>(Zdm (enc:=cI) (xs:=out_1) rfl i_ hi_)) (fun i_ hi_=>(Zkp (enc:=cI) hi_)) i_ hi_)⟩,trivial⟩) ?_
       refine Zbd ((out_1++[k])++(list.drop at_x.toNat)) (show (((out_1++[k])++(list.drop at_x.toNat))=Zmn (if high=true then cH boxes else cL boxes) list k)∧(True) from ⟨(by first|(rw [howx];unfold Zmn;rw [Zka (j:=at_x.toNat) (fun j h1 h2=>hgt j om h2) om (by first|exact Or.inl om|exact Or.inr (by rw [show at_x.toNat-1=(at_x-1).toNat from by omega];(first|exact hcp|(rw [if_neg (show ¬ high=true from by rw [show high=false from by assumption];decide)];exact hq1))))];simp [Zhj];done)),trivial⟩) (⟨.inl rfl,trivial⟩) (.arr 8221) (by kernel_rfl) (.inl rfl) (fun h=>by cases h) (fun h=>by cases h)
      refine Zca (congrArg Bv h3) ?_
      refine Zbn (Zac (Zam ?_))
      refine xQ [] [0,1,2,3,9,34] [] [] trivial (Zhn (Zbn (Zac ?_)))
      refine x_r [] [0,1,2,3,9] [] [Zae false boxes,slI false list,I k,Bv high,I (at_x-1)] [] [inR .i64 (at_x-1)] ⟨(Zaf om om),trivial⟩ (Zbm 1 ?_)
      exact Zbu (at_x-1) rfl (show (0≤(at_x-1)∧(at_x-1)≤(list.length:Int))∧(∀j:Nat,(at_x-1)≤(j:Int)→j<list.length→(if high=true then cH boxes else cL boxes) k (at_ list j)<0)∧True from ⟨om,(by intro j h1 h2;by_cases e:(j:Int)=at_x-1;(rw [show j=(at_x-1).toNat from by omega];(first|exact hcp|(rw [if_neg (show ¬ high=true from by rw [show high=false from by assumption];decide)];exact hq1)));exact hgt j om h2),trivial⟩) (by first|(show ((at_x-1).toNat:Nat)<at_x.toNat;omega)|(dsimp only;omega))
     have hq1:¬ cL boxes k (at_ list (at_x-1).toNat)<0:=of_decide_eq_false h2
     refine x_q [(7,.call [(true,.any),(true,.any),(true,.any)] true (Bv false))] [0,1,2,3,9,10] [] [inR .i64 (at_x-1),(0:Int)≤(at_x-1)∧(at_x-1)<(list.length:Int),Con Try.prog 74 [Zae false boxes,I k,I (at_ list ((at_x-1).toNat))] true (Bv false)∧True] ⟨(Zaf om om),⟨om,om⟩,⟨(Zak h2 (Zgp boxes k (at_ list ((at_x-1).toNat)) om (Zkb hx om))),trivial⟩,trivial⟩ (Zac (Zam ?_))
     refine xR [] [0,1,2,3,9,10,24] [] [Zae false boxes,slI false list,I k,Bv high,I at_x,Bv false,Bv high] [] [] trivial ?_
     rcases Bool.eq_false_or_eq_true high with h5|h5
     ·refine Zgs (congrArg Bv h5) ?_
      rcases Bool.eq_false_or_eq_true (hghB boxes k (at_ list ((at_x-1).toNat))) with h6|h6
      ·have hcp:(if high=true then cH boxes else cL boxes) k (at_ list (at_x-1).toNat)<0:=by rw [if_pos (by assumption)];exact of_decide_eq_true h6
       refine x_q [(7,.call [(true,.any),(true,.any),(true,.any)] true (Bv true))] [0,1,2,3,9,10] [] [inR .i64 (at_x-1),(0:Int)≤(at_x-1)∧(at_x-1)<(list.length:Int),Con Try.prog 82 [Zae false boxes,I k,I (at_ list ((at_x-1).toNat))] true (Bv true)∧True] ⟨(Zaf om om),⟨om,om⟩,⟨(Zak h6 (Zgr boxes k (at_ list ((at_x-1).toNat)) om (Zkb hx om))),trivial⟩,trivial⟩ (Zac (Zam ?_))
       refine xQ [] [0,1,2,3,9,34] [] [] trivial (Zhn (Zbn (Zac ?_)))
       refine x_r [] [0,1,2,3,9] [] [Zae false boxes,slI false list,I k,Bv high,I (at_x-1)] [] [inR .i64 (at_x-1)] ⟨(Zaf om om),trivial⟩ (Zbm 1 ?_)
       exact Zbu (at_x-1) rfl (show (0≤(at_x-1)∧(at_x-1)≤(list.length:Int))∧(∀j:Nat,(at_x-1)≤(j:Int)→j<list.length→(if high=true then cH boxes else cL boxes) k (at_ list j)<0)∧True from ⟨om,(by intro j h1 h2;by_cases e:(j:Int)=at_x-1;(rw [show j=(at_x-1).toNat from by omega];(first|exact hcp|(rw [if_neg (show ¬ high=true from by rw [show high=false from by assumption];decide)];exact hq1)));exact hgt j om h2),trivial⟩) (by first|(show ((at_x-1).toNat:Nat)<at_x.toNat;omega)|(dsimp only;omega))
      have hcp:¬ (if high=true then cH boxes else cL boxes) k (at_ list (at_x-1).toNat)<0:=by rw [if_pos (by assumption)];exact of_decide_eq_false h6
      refine x_q [(7,.call [(true,.any),(true,.any),(true,.any)] true (Bv false))] [0,1,2,3,9,10] [] [inR .i64 (at_x-1),(0:Int)≤(at_x-1)∧(at_x-1)<(list.length:Int),Con Try.prog 82 [Zae false boxes,I k,I (at_ list ((at_x-1).toNat))] true (Bv false)∧True] ⟨(Zaf om om),⟨om,om⟩,⟨(Zak h6 (Zgr boxes k (at_ list ((at_x-1).toNat)) om (Zkb hx om))),trivial⟩,trivial⟩ (Zac (Zam ?_))
      refine xR [] [0,1,2,3,9,34] [] [Zae false boxes,slI false list,I k,Bv high,I at_x,Bv true] [] [] trivial (Zgs rfl (Zcw (Zas ?_)))
      refine Zgd rfl ?_
      refine Zaw ?_
      refine Zat (Zac (Zam ?_))
      obtain ⟨out_2,hx2_0,hc2⟩:=Zjk (list.take at_x.toNat) (by simp only [List.length_take];omega)
      have hol_out_2:out_2.length=((list.take at_x.toNat)).length:=by rw [hx2_0]
      simp only [List.length_take,List.length_drop] at hol_out_2
      have howx:=hx2_0
      refine x_q [(3,.lend [] [(8201,tAI out_2)] [(false,slI false (list.take at_x.toNat))] false (.arr 8201)),(5,.new 42),(6,.new 43)] [1,9,11] [43] [(0:Int)≤0∧(0:Int)≤at_x∧at_x≤(list.length:Int),Zao Try.prog 40 [slI false (list.take at_x.toNat)] (Zab []) false (.arr 8201) (Zab [(8201,tAI out_2)])∧((false=true→false=true)∧1=1∧(at_x.toNat-0)=((list.take at_x.toNat).length)∧∀i_,i_<((list.take at_x.toNat).length)→(Zoi 0 (fI list)) i_=(fI (list.take at_x.toNat)) i_∨(AV.idsL ((fI (list.take at_x.toNat)) i_)=[]∧leL (fun _=>none) false ((Zoi 0 (fI list)) i_) ((fI (list.take at_x.toNat)) i_)))∧True,(out_2.length+1)*8≤140737488355328] ⟨⟨om,om,om⟩,⟨hc2,⟨(fun h=>by cases h),rfl,(by first|rfl|(simp;done)|(simp;omega)|omega),fun i_ hi_=> .inl (Zko (enc:=cI) hi_)⟩,trivial⟩,om,trivial⟩ (Zac ?_)
      refine xR [(4,.new 48)] [8] [48] [.arr 48] [some (.arr 1 ((out_2.length+1)+((list.length:Int).toNat-at_x.toNat)) (Zeg (out_2.length+1) (Zeg out_2.length (fI out_2) (Zeo [I k] 1)) (Zoi at_x.toNat (fI list))))] [(0:Int)≤at_x∧at_x≤(list.length:Int)∧(list.length:Int)≤(list.length:Int),((out_2.length+1)+((list.length:Int).toNat-at_x.toNat))*8≤140737488355328] ⟨⟨om,om,om⟩,om,trivial⟩ (Zby ?_)
      refine Zcb [(8221,48)] (T:=[(8,.arr 8221)]) (O:=[(8221,tAI ((out_2++[k])++(list.drop at_x.toNat)))]) rfl (⟨.inl rfl,trivial⟩) (⟨.inr ⟨rfl,(by first|rfl|(simp;done)|(simp;omega)|omega),fun i_ hi_=> .inl (Zpi (enc:=cI) (xs:=(out_2++[k])) (ys:=(list.drop at_x.toNat)) (by first|rfl|(simp;done)|(simp;omega)) (fun i_ hi_=>(Zdm (enc:=cI) (xs:=out_2) rfl i_ hi_)) (fun i_ hi_=>(Zkp (enc:=cI) hi_)) i_ hi_)⟩,trivial⟩) ?_
      refine Zbd ((out_2++[k])++(list.drop at_x.toNat)) (show (((out_2++[k])++(list.drop at_x.toNat))=Zmn (if high=true then cH boxes else cL boxes) list k)∧(True) from ⟨(by first|(rw [howx];unfold Zmn;rw [Zka (j:=at_x.toNat) (fun j h1 h2=>hgt j om h2) om (by first|exact Or.inl om|exact Or.inr (by rw [show at_x.toNat-1=(at_x-1).toNat from by omega];(first|exact hcp|(rw [if_neg (show ¬ high=true from by rw [show high=false from by assumption];decide)];exact hq1))))];simp [Zhj];done)),trivial⟩) (⟨.inl rfl,trivial⟩) (.arr 8221) (by kernel_rfl) (.inl rfl) (fun h=>by cases h) (fun h=>by cases h)
     refine Zca (congrArg Bv h5) ?_
     refine Zbn (Zac (Zam ?_))
     refine xR [] [0,1,2,3,9,34] [] [Zae false boxes,slI false list,I k,Bv high,I at_x,Bv true] [] [] trivial (Zgs rfl (Zcw (Zas ?_)))
     refine Zgd rfl ?_
     refine Zaw ?_
     refine Zat (Zac (Zam ?_))
     obtain ⟨out_3,hx3_0,hc3⟩:=Zjk (list.take at_x.toNat) (by simp only [List.length_take];omega)
     have hol_out_3:out_3.length=((list.take at_x.toNat)).length:=by rw [hx3_0]
     simp only [List.length_take,List.length_drop] at hol_out_3
     have howx:=hx3_0
     refine x_q [(3,.lend [] [(8201,tAI out_3)] [(false,slI false (list.take at_x.toNat))] false (.arr 8201)),(5,.new 42),(6,.new 43)] [1,9,11] [43] [(0:Int)≤0∧(0:Int)≤at_x∧at_x≤(list.length:Int),Zao Try.prog 40 [slI false (list.take at_x.toNat)] (Zab []) false (.arr 8201) (Zab [(8201,tAI out_3)])∧((false=true→false=true)∧1=1∧(at_x.toNat-0)=((list.take at_x.toNat).length)∧∀i_,i_<((list.take at_x.toNat).length)→(Zoi 0 (fI list)) i_=(fI (list.take at_x.toNat)) i_∨(AV.idsL ((fI (list.take at_x.toNat)) i_)=[]∧leL (fun _=>none) false ((Zoi 0 (fI list)) i_) ((fI (list.take at_x.toNat)) i_)))∧True,(out_3.length+1)*8≤140737488355328] ⟨⟨om,om,om⟩,⟨hc3,⟨(fun h=>by cases h),rfl,(by first|rfl|(simp;done)|(simp;omega)|omega),fun i_ hi_=> .inl (Zko (enc:=cI) hi_)⟩,trivial⟩,om,trivial⟩ (Zac ?_)
     refine xR [(4,.new 48)] [8] [48] [.arr 48] [some (.arr 1 ((out_3.length+1)+((list.length:Int).toNat-at_x.toNat)) (Zeg (out_3.length+1) (Zeg out_3.length (fI out_3) (Zeo [I k] 1)) (Zoi at_x.toNat (fI list))))] [(0:Int)≤at_x∧at_x≤(list.length:Int)∧(list.length:Int)≤(list.length:Int),((out_3.length+1)+((list.length:Int).toNat-at_x.toNat))*8≤140737488355328] ⟨⟨om,om,om⟩,om,trivial⟩ (Zby ?_)
     refine Zcb [(8221,48)] (T:=[(8,.arr 8221)]) (O:=[(8221,tAI ((out_3++[k])++(list.drop at_x.toNat)))]) rfl (⟨.inl rfl,trivial⟩) (⟨.inr ⟨rfl,(by first|rfl|(simp;done)|(simp;omega)|omega),fun i_ hi_=> .inl (Zpi (enc:=cI) (xs:=(out_3++[k])) (ys:=(list.drop at_x.toNat)) (by first|rfl|(simp;done)|(simp;omega)) (fun i_ hi_=>(Zdm (enc:=cI) (xs:=out_3) rfl i_ hi_)) (fun i_ hi_=>(Zkp (enc:=cI) hi_)) i_ hi_)⟩,trivial⟩) ?_
     refine Zbd ((out_3++[k])++(list.drop at_x.toNat)) (show (((out_3++[k])++(list.drop at_x.toNat))=Zmn (if high=true then cH boxes else cL boxes) list k)∧(True) from ⟨(by first|(rw [howx];unfold Zmn;rw [Zka (j:=at_x.toNat) (fun j h1 h2=>hgt j om h2) om (by first|exact Or.inl om|exact Or.inr (by rw [show at_x.toNat-1=(at_x-1).toNat from by omega];(first|exact hcp|(rw [if_neg (show ¬ high=true from by rw [show high=false from by assumption];decide)];exact hq1))))];simp [Zhj];done)),trivial⟩) (⟨.inl rfl,trivial⟩) (.arr 8221) (by kernel_rfl) (.inl rfl) (fun h=>by cases h) (fun h=>by cases h)
    refine x_r [(1,.dec false)] [0,1,2,3,9,15] [] [Zae false boxes,slI false list,I k,Bv high,I at_x,Bv false] [] [_] ⟨h1,trivial⟩ (Zac (Zca rfl (Zcw (Zas ?_))))
    refine Zaw ?_
    refine Zat (Zac (Zam ?_))
    obtain ⟨out_4,hx4_0,hc4⟩:=Zjk (list.take at_x.toNat) (by simp only [List.length_take];omega)
    have hol_out_4:out_4.length=((list.take at_x.toNat)).length:=by rw [hx4_0]
    simp only [List.length_take,List.length_drop] at hol_out_4
    have howx:=hx4_0
    refine x_q [(3,.lend [] [(8201,tAI out_4)] [(false,slI false (list.take at_x.toNat))] false (.arr 8201)),(5,.new 42),(6,.new 43)] [1,9,11] [43] [(0:Int)≤0∧(0:Int)≤at_x∧at_x≤(list.length:Int),Zao Try.prog 40 [slI false (list.take at_x.toNat)] (Zab []) false (.arr 8201) (Zab [(8201,tAI out_4)])∧((false=true→false=true)∧1=1∧(at_x.toNat-0)=((list.take at_x.toNat).length)∧∀i_,i_<((list.take at_x.toNat).length)→(Zoi 0 (fI list)) i_=(fI (list.take at_x.toNat)) i_∨(AV.idsL ((fI (list.take at_x.toNat)) i_)=[]∧leL (fun _=>none) false ((Zoi 0 (fI list)) i_) ((fI (list.take at_x.toNat)) i_)))∧True,(out_4.length+1)*8≤140737488355328] ⟨⟨om,om,om⟩,⟨hc4,⟨(fun h=>by cases h),rfl,(by first|rfl|(simp;done)|(simp;omega)|omega),fun i_ hi_=> .inl (Zko (enc:=cI) hi_)⟩,trivial⟩,om,trivial⟩ (Zac ?_)
    refine xR [(4,.new 48)] [8] [48] [.arr 48] [some (.arr 1 ((out_4.length+1)+((list.length:Int).toNat-at_x.toNat)) (Zeg (out_4.length+1) (Zeg out_4.length (fI out_4) (Zeo [I k] 1)) (Zoi at_x.toNat (fI list))))] [(0:Int)≤at_x∧at_x≤(list.length:Int)∧(list.length:Int)≤(list.length:Int),((out_4.length+1)+((list.length:Int).toNat-at_x.toNat))*8≤140737488355328] ⟨⟨om,om,om⟩,om,trivial⟩ (Zby ?_)
    refine Zcb [(8221,48)] (T:=[(8,.arr 8221)]) (O:=[(8221,tAI ((out_4++[k])++(list.drop at_x.toNat)))]) rfl (⟨.inl rfl,trivial⟩) (⟨.inr ⟨rfl,(by first|rfl|(simp;done)|(simp;omega)|omega),fun i_ hi_=> .inl (Zpi (enc:=cI) (xs:=(out_4++[k])) (ys:=(list.drop at_x.toNat)) (by first|rfl|(simp;done)|(simp;omega)) (fun i_ hi_=>(Zdm (enc:=cI) (xs:=out_4) rfl i_ hi_)) (fun i_ hi_=>(Zkp (enc:=cI) hi_)) i_ hi_)⟩,trivial⟩) ?_
    refine Zbd ((out_4++[k])++(list.drop at_x.toNat)) (show (((out_4++[k])++(list.drop at_x.toNat))=Zmn (if high=true then cH boxes else cL boxes) list k)∧(True) from ⟨(by first|(rw [howx];unfold Zmn;rw [Zka (j:=at_x.toNat) (fun j h1 h2=>hgt j om h2) om (by first|exact Or.inl om|exact Or.inr (by rw [show at_x.toNat-1=(at_x-1).toNat from by omega];(first|exact hcp|(rw [if_neg (show ¬ high=true from by rw [show high=false from by assumption];decide)];exact hq1))))];simp [Zhj];done)),trivial⟩) (⟨.inl rfl,trivial⟩) (.arr 8221) (by kernel_rfl) (.inl rfl) (fun h=>by cases h) (fun h=>by cases h)
  obtain ⟨out,⟨hh0,_⟩,hc⟩:=hh
  exact ⟨out,hh0,hc⟩
theorem Zkm (s:l00Src) (boxes:List Box) (hs:Zba s) (ha:s.atx≤3999999999999999000) (hbl:boxes.length≤100):∃(v:List Int) (s':l00Src),(v.length≤100)∧(Zba s')∧(s'.code=s.code)∧(s.atx+0≤s'.atx∧s'.atx≤s.atx+600)∧Zao Try.prog 52 [.ref 7001 0,Zae false boxes] (Zab [(7001,Zaa s)]) true (slI true v) (Zab [(7001,Zaa s')]):=by
  have hh:∃r:(List Int)×l00Src,((r.1.length≤100)∧(Zba r.2)∧(r.2.code=s.code)∧(s.atx+0≤r.2.atx∧r.2.atx≤s.atx+600)∧(True))∧Zao Try.prog 52 [.ref 7001 0,Zae false boxes] (Zab [(7001,Zaa s)]) true (slI true r.1) (Zab [(7001,Zaa r.2)]):=by
    refine Zcp (Φ:=fun r:(List Int)×l00Src=>(r.1.length≤100)∧(Zba r.2)∧(r.2.code=s.code)∧(s.atx+0≤r.2.atx∧r.2.atx≤s.atx+600)∧(True)) [(7001,Zaa s)] (fun r=>[(7001,Zaa r.2)]) (fn:=Try.f52) (nt:=45) Try.func52 rfl rfl (args:=[.ref 7001 0,Zae false boxes]) rfl (Zap (.inr trivial) (Zap (.inl ⟨rfl,Zbo false _⟩) Zco)) (res:=fun r=>slI true r.1) ?_
    refine xQ [] [0,1] [7001] [] trivial (Zam (Zam ?_))
    rcases Bool.eq_false_or_eq_true (Zbp boxes) with h1|h1
    ·obtain ⟨v_1,s'_1,hx1_0,hx1_1,hx1_2,hc1⟩:=Zuy s 12 (by first|assumption|(simp only [Zba] at*;simp_all;done)) om
     rcases Bool.eq_false_or_eq_true v_1 with h2|h2
     ·subst h2
      refine x_q [(1,.call [(true,.any)] true (Bv true)),(5,.lend [(7001,Zaa s,Zaa s'_1)] [] [(true,.any),(true,.any)] true (Bv true))] [0,1,13] [7001] [Con Try.prog 35 [Zae false boxes] true (Bv true)∧True,Zao Try.prog 41 [.ref 7001 0,I 12] (Zab [(7001,Zaa s)]) true (Bv true) (Zab [(7001,Zaa s'_1)])∧(((Zaa s:Ob)=Zaa s∨Zef Zdl true (Zaa s) (Zaa s))∧Zan false (Zaa s))∧True] ⟨⟨(Zak h1 (Zdc boxes)),trivial⟩,⟨hc1,⟨.inl rfl,(by simp [Zan,Zag,Zah,Zct])⟩,trivial⟩,trivial⟩ (Zac (Zel (Zam ?_)))
      obtain ⟨v_2,s'_2,hx2_0,hx2_1,hx2_2,hx2_3,hc2⟩:=Zdh s'_1 4 (by first|assumption|(simp only [Zba] at*;simp_all;done)) om
      refine x_r [(1,.lend [(7001,Zaa s'_1,Zaa s'_2)] [] [(true,.any),(true,.any)] true (I v_2)),(3,.new 17)] [4] [17,7001] [.arr 17] [some (.arr 1 2 (Zeo [I 0,I (v_2-1)] 1)),some (Zaa s'_2)] [Zao Try.prog 39 [.ref 7001 0,I 4] (Zab [(7001,Zaa s'_1)]) true (I v_2) (Zab [(7001,Zaa s'_2)])∧(((Zaa s'_1:Ob)=Zaa s'_1∨Zef Zdl true (Zaa s'_1) (Zaa s'_1))∧Zan false (Zaa s'_1))∧True,inR .i64 (v_2-1)] ⟨⟨hc2,⟨.inl rfl,(by simp [Zan,Zag,Zah,Zct])⟩,trivial⟩,(Zaf om om),trivial⟩ (Zac (Zby (Zbc ?_)))
      refine Zbd ([0,(v_2-1)],s'_2) (show (([0,(v_2-1)]).length≤100)∧(Zba s'_2)∧(s'_2.code=s.code)∧(s.atx+0≤s'_2.atx∧s'_2.atx≤s.atx+600)∧(True) from ⟨(by first|omega|assumption|rfl|(simp;done)|(simp;omega)|(simp_all;done)),(by first|omega|assumption|rfl|(simp;done)|(simp;omega)|(simp_all;done)),(by first|omega|assumption|rfl|(simp;done)|(simp;omega)|(simp_all;done)),(by first|omega|assumption|rfl|(simp;done)|(simp;omega)|(simp_all;done)),trivial⟩) (⟨.inl rfl,trivial⟩) (.arr 17) (by kernel_rfl) (.inr ⟨(fun _=>rfl),rfl,(by first|rfl|(simp;done)|(simp;omega)|omega),fun i_ hi_=> .inl (match i_,hi_ with|0,_=>rfl|1,_=>rfl|(i+2),h=>absurd h (by simp))⟩) (fun _=>rfl) (fun _=>(Zft true _))
     subst h2
     refine x_q [(1,.call [(true,.any)] true (Bv true)),(5,.lend [(7001,Zaa s,Zaa s'_1)] [] [(true,.any),(true,.any)] true (Bv false))] [0,1,13] [7001] [Con Try.prog 35 [Zae false boxes] true (Bv true)∧True,Zao Try.prog 41 [.ref 7001 0,I 12] (Zab [(7001,Zaa s)]) true (Bv false) (Zab [(7001,Zaa s'_1)])∧(((Zaa s:Ob)=Zaa s∨Zef Zdl true (Zaa s) (Zaa s))∧Zan false (Zaa s))∧True] ⟨⟨(Zak h1 (Zdc boxes)),trivial⟩,⟨hc1,⟨.inl rfl,(by simp [Zan,Zag,Zah,Zct])⟩,trivial⟩,trivial⟩ (Zac (Zhn (Zbn (Zac ?_))))
     refine xQ [(0,.new 18)] [0,1,5] [18,7001] [] trivial (Zam ?_)
     refine xR [] [0,1,5,6] [18,7001] [.ref 7001 0,Zae false boxes,.arr 18,I 0] [some (.arr 1 0 (Zeo [] 1)),some (Zaa s'_1)] [] trivial (Zbg ?_)
     refine Zde [] (T:=[(0,.ref 7001 0),(1,Zae false boxes),(5,.arr 18),(6,I 0)]) (O:=[(18,tAI ([]:List Int)),(7001,Zaa s'_1)]) rfl (⟨.inl rfl,.inl rfl,.inl rfl,.inl rfl,trivial⟩) (⟨.inr ⟨rfl,(by first|rfl|(simp;done)|(simp;omega)|omega),fun i_ hi_=>absurd hi_ (Nat.not_lt_zero _)⟩,.inl rfl,trivial⟩) ?_
     refine Zdn (X:=(List Int)×Int×l00Src) (fun x=>mkS [(0,.ref 7001 0),(1,Zae false boxes),(5,.arr 18),(6,I x.2.1)] [(18,tAI x.1),(7001,Zaa x.2.2)]) (fun x=>(Zba x.2.2∧x.2.2.code=s.code∧s.atx≤x.2.2.atx∧x.2.2.atx≤s.atx+10+2*x.2.1)∧(0≤x.2.1∧x.2.1≤(boxes.length:Int))∧((x.1.length:Int)≤x.2.1)∧(Zvv boxes.length x.1)∧True) (fun x=>((boxes.length:Int)-x.2.1).toNat) (([]:List Int),0,s'_1) rfl (show (Zba s'_1∧s'_1.code=s.code∧s.atx≤s'_1.atx∧s'_1.atx≤s.atx+10+2*(0:Int))∧(0≤(0:Int)∧(0:Int)≤(boxes.length:Int))∧((([]:List Int).length:Int)≤(0:Int))∧(Zvv boxes.length ([]:List Int))∧True from ⟨(by exact ⟨by assumption,by first|assumption|rfl|(simp only [*];done),by omega,by omega⟩),om,(by simp),(by (intro z hz;simp at hz)),trivial⟩) (fun x hI=> ?_)
     obtain ⟨out,k,src⟩:=x
     obtain ⟨hs0,hk0,hl0,hx0,_⟩:(Zba src∧src.code=s.code∧s.atx≤src.atx∧src.atx≤s.atx+10+2*k)∧(0≤k∧k≤(boxes.length:Int))∧((out.length:Int)≤k)∧(Zvv boxes.length out)∧True:=hI
     show XW _ _ _ _ (mkS [(0,.ref 7001 0),(1,Zae false boxes),(5,.arr 18),(6,I k)] [(18,tAI out),(7001,Zaa src)]) _ _
     refine Zam (Zam ?_)
     by_cases h3:k<(boxes.length:Int)
     ·refine x_q [(3,.dec true)] [0,1,5,6,22] [18,7001] [_] ⟨h3,trivial⟩ (Zac (Zel (Zbn (Zac (Zam (Zbg (Zam ?_)))))))
      obtain ⟨v_3,s'_3,hx3_0,hx3_1,hx3_2,hc3⟩:=Zuy src 4 (by first|assumption|(simp only [Zba] at*;simp_all;done)) om
      rcases Bool.eq_false_or_eq_true v_3 with h4|h4
      ·subst h4
       refine x_q [(1,.lend [(7001,Zaa src,Zaa s'_3)] [] [(true,.any),(true,.any)] true (Bv true))] [0,1,5,6,27] [18,7001] [Zao Try.prog 41 [.ref 7001 0,I 4] (Zab [(7001,Zaa src)]) true (Bv true) (Zab [(7001,Zaa s'_3)])∧(((Zaa src:Ob)=Zaa src∨Zef Zdl true (Zaa src) (Zaa src))∧Zan false (Zaa src))∧True] ⟨⟨hc3,⟨.inl rfl,(by simp [Zan,Zag,Zah,Zct])⟩,trivial⟩,trivial⟩ (Zac (Zhn (Zbn (Zbm 1 (Zac ?_)))))
       refine x_r [] [0,1,5,6] [18,7001] [.ref 7001 0,Zae false boxes,.arr 18,I (k+1)] [some (tAI out),some (Zaa s'_3)] [inR .i64 (k+1)] ⟨(Zaf om om),trivial⟩ ?_
       exact Zbu (out,(k+1),s'_3) rfl (show (Zba s'_3∧s'_3.code=s.code∧s.atx≤s'_3.atx∧s'_3.atx≤s.atx+10+2*(k+1))∧(0≤(k+1)∧(k+1)≤(boxes.length:Int))∧((out.length:Int)≤(k+1))∧(Zvv boxes.length out)∧True from ⟨(by exact ⟨by assumption,by first|assumption|rfl|(simp only [*];done),by omega,by omega⟩),om,om,(by assumption),trivial⟩) (by first|(show (((boxes.length:Int)-(k+1)).toNat:Nat)<((boxes.length:Int)-k).toNat;omega)|(dsimp only;omega))
      subst h4
      refine x_q [(1,.lend [(7001,Zaa src,Zaa s'_3)] [] [(true,.any),(true,.any)] true (Bv false))] [0,1,5,6,27] [18,7001] [Zao Try.prog 41 [.ref 7001 0,I 4] (Zab [(7001,Zaa src)]) true (Bv false) (Zab [(7001,Zaa s'_3)])∧(((Zaa src:Ob)=Zaa src∨Zef Zdl true (Zaa src) (Zaa src))∧Zan false (Zaa src))∧True] ⟨⟨hc3,⟨.inl rfl,(by simp [Zan,Zag,Zah,Zct])⟩,trivial⟩,trivial⟩ (Zac (Zel ?_))
      obtain ⟨out_4,hx4_0,hc4⟩:=Zjy boxes out k false om om (by assumption)
      have hpt:=hx4_0
      have hptl:out_4.length=out.length+1:=by rw [hpt];exact Zsu _ _
      have hptx:Zvv boxes.length out_4:=by rw [hpt];exact ixIn_ins hx0 om
      refine x_q [(3,.lend [] [(8221,tAI out_4)] [(true,.any),(false,slI false out),(true,.any),(true,.any)] false (.arr 8221))] [0,1,5,6] [7001,8221] [Zao Try.prog 69 [Zae false boxes,slI false out,I k,Bv false] (Zab []) false (.arr 8221) (Zab [(8221,tAI out_4)])∧((false=true→true=true)∧1=1∧out.length=out.length∧∀i_,i_<out.length→(fI out) i_=(fI out) i_∨(AV.idsL ((fI out) i_)=[]∧leL (fun _=>none) false ((fI out) i_) ((fI out) i_)))∧True] ⟨⟨hc4,⟨(fun h=>by cases h),rfl,rfl,fun i _=> .inl rfl⟩,trivial⟩,trivial⟩ (Zbm 1 (Zac ?_))
      refine x_r [] [0,1,5,6] [7001,8221] [.ref 7001 0,Zae false boxes,.arr 8221,I (k+1)] [some (Zaa s'_3),some (tAI out_4)] [inR .i64 (k+1)] ⟨(Zaf om om),trivial⟩ ?_
      refine Zcb [(18,8221)] (T:=[(0,.ref 7001 0),(1,Zae false boxes),(5,.arr 18),(6,I (k+1))]) (O:=[(18,tAI out_4),(7001,Zaa s'_3)]) rfl (⟨.inl rfl,.inl rfl,.inl rfl,.inl rfl,trivial⟩) (⟨.inl rfl,.inl rfl,trivial⟩) (Zbu (out_4,(k+1),s'_3) rfl (show (Zba s'_3∧s'_3.code=s.code∧s.atx≤s'_3.atx∧s'_3.atx≤s.atx+10+2*(k+1))∧(0≤(k+1)∧(k+1)≤(boxes.length:Int))∧((out_4.length:Int)≤(k+1))∧(Zvv boxes.length out_4)∧True from ⟨(by exact ⟨by assumption,by first|assumption|rfl|(simp only [*];done),by omega,by omega⟩),om,om,(by assumption),trivial⟩) (by first|(show (((boxes.length:Int)-(k+1)).toNat:Nat)<((boxes.length:Int)-k).toNat;omega)|(dsimp only;omega)))
     refine x_r [(3,.dec false)] [0,1,5,6,22] [18,7001] [.ref 7001 0,Zae false boxes,.arr 18,I k,Bv false] [some (tAI out),some (Zaa src)] [_] ⟨h3,trivial⟩ (Zac (Zca rfl (Zcw (Zas ?_))))
     refine Zaw ?_
     refine Zat (Zac (Zam (Zam ?_)))
     by_cases h5:1<(out.length:Int)
     ·obtain ⟨v_5,s'_5,hx5_0,hx5_1,hx5_2,hc5⟩:=Zuy src 14 (by first|assumption|(simp only [Zba] at*;simp_all;done)) om
      rcases Bool.eq_false_or_eq_true v_5 with h6|h6
      ·subst h6
       refine x_q [(2,.dec true),(5,.lend [(7001,Zaa src,Zaa s'_5)] [] [(true,.any),(true,.any)] true (Bv true))] [5,38] [18,7001] [_,Zao Try.prog 41 [.ref 7001 0,I 14] (Zab [(7001,Zaa src)]) true (Bv true) (Zab [(7001,Zaa s'_5)])∧(((Zaa src:Ob)=Zaa src∨Zef Zdl true (Zaa src) (Zaa src))∧Zan false (Zaa src))∧True] ⟨h5,⟨hc5,⟨.inl rfl,(by simp [Zan,Zag,Zah,Zct])⟩,trivial⟩,trivial⟩ (Zac (Zel ?_))
       refine x_q [] [5] [18,7001] [(0:Int)≤1∧1<(out.length:Int),1<out.length,(0:Int)≤0∧0<(out.length:Int),0<out.length] ⟨⟨om,om⟩,om,⟨om,om⟩,om,trivial⟩ (Zac ?_)
       refine xR [] [4] [18,7001] [.arr 18] [some (.arr 1 out.length (fun q=>bif Nat.beq q 0 then [I (at_ out 1)] else (fI out) q)),some (Zaa s'_5)] [] trivial (Zby ?_)
       refine Zbd ((out.set 0 (at_ out 1)),s'_5) (show ((out.set 0 (at_ out 1)).length≤100)∧(Zba s'_5)∧(s'_5.code=s.code)∧(s.atx+0≤s'_5.atx∧s'_5.atx≤s.atx+600)∧(True) from ⟨(by first|omega|assumption|rfl|(simp;done)|(simp;omega)|(simp_all;done)),(by first|omega|assumption|rfl|(simp;done)|(simp;omega)|(simp_all;done)),(by first|omega|assumption|rfl|(simp;done)|(simp;omega)|(simp_all;done)),(by first|omega|assumption|rfl|(simp;done)|(simp;omega)|(simp_all;done)),trivial⟩) (⟨.inl rfl,trivial⟩) (.arr 18) (by kernel_rfl) (.inr ⟨(fun _=>rfl),rfl,(by first|rfl|(simp;done)|(simp;omega)|omega),fun i_ hi_=> .inl (Zrw (enc:=cI) rfl i_ hi_)⟩) (fun _=>rfl) (fun _=>(Zft true _))
      subst h6
      refine x_q [(2,.dec true),(5,.lend [(7001,Zaa src,Zaa s'_5)] [] [(true,.any),(true,.any)] true (Bv false))] [5,38] [18,7001] [_,Zao Try.prog 41 [.ref 7001 0,I 14] (Zab [(7001,Zaa src)]) true (Bv false) (Zab [(7001,Zaa s'_5)])∧(((Zaa src:Ob)=Zaa src∨Zef Zdl true (Zaa src) (Zaa src))∧Zan false (Zaa src))∧True] ⟨h5,⟨hc5,⟨.inl rfl,(by simp [Zan,Zag,Zah,Zct])⟩,trivial⟩,trivial⟩ (Zac (Zhn (Zbn (Zac ?_))))
      refine xR [] [4] [18,7001] [.arr 18] [some (tAI out),some (Zaa s'_5)] [] trivial (Zby ?_)
      refine Zbd (out,s'_5) (show (out.length≤100)∧(Zba s'_5)∧(s'_5.code=s.code)∧(s.atx+0≤s'_5.atx∧s'_5.atx≤s.atx+600)∧(True) from ⟨(by first|omega|assumption|rfl|(simp;done)|(simp;omega)|(simp_all;done)),(by first|omega|assumption|rfl|(simp;done)|(simp;omega)|(simp_all;done)),(by first|omega|assumption|rfl|(simp;done)|(simp;omega)|(simp_all;done)),(by first|omega|assumption|rfl|(simp;done)|(simp;omega)|(simp_all;done)),trivial⟩) (⟨.inl rfl,trivial⟩) (.arr 18) (by kernel_rfl) (.inr ⟨(fun _=>rfl),rfl,rfl,fun i _=> .inl rfl⟩) (fun _=>rfl) (fun _=>(Zft true _))
     refine x_q [(2,.dec false)] [5,38] [18,7001] [_] ⟨h5,trivial⟩ (Zac (Zhn (Zbn (Zac ?_))))
     refine xR [] [4] [18,7001] [.arr 18] [some (tAI out),some (Zaa src)] [] trivial (Zby ?_)
     refine Zbd (out,src) (show (out.length≤100)∧(Zba src)∧(src.code=s.code)∧(s.atx+0≤src.atx∧src.atx≤s.atx+600)∧(True) from ⟨(by first|omega|assumption|rfl|(simp;done)|(simp;omega)|(simp_all;done)),(by first|omega|assumption|rfl|(simp;done)|(simp;omega)|(simp_all;done)),(by first|omega|assumption|rfl|(simp;done)|(simp;omega)|(simp_all;done)),(by first|omega|assumption|rfl|(simp;done)|(simp;omega)|(simp_all;done)),trivial⟩) (⟨.inl rfl,trivial⟩) (.arr 18) (by kernel_rfl) (.inr ⟨(fun _=>rfl),rfl,rfl,fun i _=> .inl rfl⟩) (fun _=>rfl) (fun _=>(Zft true _))
    refine x_q [(1,.call [(true,.any)] true (Bv false))] [0,1,13] [7001] [Con Try.prog 35 [Zae false boxes] true (Bv false)∧True] ⟨⟨(Zak h1 (Zdc boxes)),trivial⟩,trivial⟩ (Zac (Zel (Zam ?_)))
    obtain ⟨v_6,s'_6,hx6_0,hx6_1,hx6_2,hx6_3,hc6⟩:=Zdh s 4 (by first|assumption|(simp only [Zba] at*;simp_all;done)) om
    refine x_r [(1,.lend [(7001,Zaa s,Zaa s'_6)] [] [(true,.any),(true,.any)] true (I v_6)),(3,.new 17)] [4] [17,7001] [.arr 17] [some (.arr 1 2 (Zeo [I 0,I (v_6-1)] 1)),some (Zaa s'_6)] [Zao Try.prog 39 [.ref 7001 0,I 4] (Zab [(7001,Zaa s)]) true (I v_6) (Zab [(7001,Zaa s'_6)])∧(((Zaa s:Ob)=Zaa s∨Zef Zdl true (Zaa s) (Zaa s))∧Zan false (Zaa s))∧True,inR .i64 (v_6-1)] ⟨⟨hc6,⟨.inl rfl,(by simp [Zan,Zag,Zah,Zct])⟩,trivial⟩,(Zaf om om),trivial⟩ (Zac (Zby (Zbc ?_)))
    refine Zbd ([0,(v_6-1)],s'_6) (show (([0,(v_6-1)]).length≤100)∧(Zba s'_6)∧(s'_6.code=s.code)∧(s.atx+0≤s'_6.atx∧s'_6.atx≤s.atx+600)∧(True) from ⟨(by first|omega|assumption|rfl|(simp;done)|(simp;omega)|(simp_all;done)),(by first|omega|assumption|rfl|(simp;done)|(simp;omega)|(simp_all;done)),(by first|omega|assumption|rfl|(simp;done)|(simp;omega)|(simp_all;done)),(by first|omega|assumption|rfl|(simp;done)|(simp;omega)|(simp_all;done)),trivial⟩) (⟨.inl rfl,trivial⟩) (.arr 17) (by kernel_rfl) (.inr ⟨(fun _=>rfl),rfl,(by first|rfl|(simp;done)|(simp;omega)|omega),fun i_ hi_=> .inl (match i_,hi_ with|0,_=>rfl|1,_=>rfl|(i+2),h=>absurd h (by simp))⟩) (fun _=>rfl) (fun _=>(Zft true _))
  obtain ⟨⟨v,s'⟩,⟨hh0,hh1,hh2,hh3,_⟩,hc⟩:=hh
  exact ⟨v,s',hh0,hh1,hh2,hh3,hc⟩
theorem Zgq (s:l00Src) (hs:Zba s) (ha:s.atx≤3999999999999999940):∃(v:Int) (s':l00Src),(-1≤v∧v≤4096)∧(Zba s')∧(s'.code=s.code)∧(s.atx+0≤s'.atx∧s'.atx≤s.atx+20)∧Zao Try.prog 31 [.ref 7001 0] (Zab [(7001,Zaa s)]) true (I v) (Zab [(7001,Zaa s')]):=by
  have hh:∃r:Int×l00Src,((-1≤r.1∧r.1≤4096)∧(Zba r.2)∧(r.2.code=s.code)∧(s.atx+0≤r.2.atx∧r.2.atx≤s.atx+20)∧(True))∧Zao Try.prog 31 [.ref 7001 0] (Zab [(7001,Zaa s)]) true (I r.1) (Zab [(7001,Zaa r.2)]):=by
    refine Zcp (Φ:=fun r:Int×l00Src=>(-1≤r.1∧r.1≤4096)∧(Zba r.2)∧(r.2.code=s.code)∧(s.atx+0≤r.2.atx∧r.2.atx≤s.atx+20)∧(True)) [(7001,Zaa s)] (fun r=>[(7001,Zaa r.2)]) (fn:=Try.f31) (nt:=10) Try.func31 rfl rfl (args:=[.ref 7001 0]) rfl (Zap (.inr trivial) Zco) (res:=fun r=>I r.1) ?_
    refine xQ [] [0] [7001] [] trivial (Zam (Zam ?_))
    obtain ⟨v_1,s'_1,hx1_0,hx1_1,hx1_2,hc1⟩:=Zuy s 12 (by first|assumption|(simp only [Zba] at*;simp_all;done)) om
    rcases Bool.eq_false_or_eq_true v_1 with h1|h1
    ·subst h1
     refine x_q [(1,.lend [(7001,Zaa s,Zaa s'_1)] [] [(true,.any),(true,.any)] true (Bv true))] [0,4] [7001] [Zao Try.prog 41 [.ref 7001 0,I 12] (Zab [(7001,Zaa s)]) true (Bv true) (Zab [(7001,Zaa s'_1)])∧(((Zaa s:Ob)=Zaa s∨Zef Zdl true (Zaa s) (Zaa s))∧Zan false (Zaa s))∧True] ⟨⟨hc1,⟨.inl rfl,(by simp [Zan,Zag,Zah,Zct])⟩,trivial⟩,trivial⟩ (Zac (Zel (Zam ?_)))
     obtain ⟨v_2,s'_2,hx2_0,hx2_1,hx2_2,hx2_3,hc2⟩:=Zpu s'_1 ([(-1),0,4095,4096]) (by first|assumption|(simp only [Zba] at*;simp_all;done)) om (by simp)
     have ham_v_2:v_2=(-1)∨v_2=0∨v_2=4095∨v_2=4096:=by simpa using hx2_0
     refine x_r [(1,.new 6),(2,.lend [(7001,Zaa s'_1,Zaa s'_2)] [] [(true,.any),(false,slI false ([(-1),0,4095,4096]))] true (I v_2))] [2] [7001] [I v_2] [some (Zaa s'_2)] [Zao Try.prog 42 [.ref 7001 0,slI false ([(-1),0,4095,4096])] (Zab [(7001,Zaa s'_1)]) true (I v_2) (Zab [(7001,Zaa s'_2)])∧((false=true→true=true)∧1=1∧4=(([(-1),0,4095,4096]).length)∧∀i_,i_<(([(-1),0,4095,4096]).length)→(Zeo [I (-1),I 0,I 4095,I 4096] 1) i_=(fI ([(-1),0,4095,4096])) i_∨(AV.idsL ((fI ([(-1),0,4095,4096])) i_)=[]∧leL (fun _=>none) false ((Zeo [I (-1),I 0,I 4095,I 4096] 1) i_) ((fI ([(-1),0,4095,4096])) i_)))∧(((Zaa s'_1:Ob)=Zaa s'_1∨Zef Zdl true (Zaa s'_1) (Zaa s'_1))∧Zan false (Zaa s'_1))∧True] ⟨⟨hc2,⟨(fun h=>by cases h),rfl,(by first|rfl|(simp;done)|(simp;omega)|omega),fun i_ hi_=> .inl (match i_,hi_ with|0,_=>rfl|1,_=>rfl|2,_=>rfl|3,_=>rfl|(i+4),h=>absurd h (by simp))⟩,⟨.inl rfl,(by simp [Zan,Zag,Zah,Zct])⟩,trivial⟩,trivial⟩ (Zac (Zby (Zbc ?_)))
     refine Zbd (v_2,s'_2) (show (-1≤v_2∧v_2≤4096)∧(Zba s'_2)∧(s'_2.code=s.code)∧(s.atx+0≤s'_2.atx∧s'_2.atx≤s.atx+20)∧(True) from ⟨(by first|omega|assumption|rfl|(simp;done)|(simp;omega)|(simp_all;done)),(by first|omega|assumption|rfl|(simp;done)|(simp;omega)|(simp_all;done)),(by first|omega|assumption|rfl|(simp;done)|(simp;omega)|(simp_all;done)),(by first|omega|assumption|rfl|(simp;done)|(simp;omega)|(simp_all;done)),trivial⟩) (⟨.inl rfl,trivial⟩) (I v_2) (by kernel_rfl) (.inl rfl) (fun _=>rfl) (fun _=>trivial)
    subst h1
    refine x_q [(1,.lend [(7001,Zaa s,Zaa s'_1)] [] [(true,.any),(true,.any)] true (Bv false))] [0,4] [7001] [Zao Try.prog 41 [.ref 7001 0,I 12] (Zab [(7001,Zaa s)]) true (Bv false) (Zab [(7001,Zaa s'_1)])∧(((Zaa s:Ob)=Zaa s∨Zef Zdl true (Zaa s) (Zaa s))∧Zan false (Zaa s))∧True] ⟨⟨hc1,⟨.inl rfl,(by simp [Zan,Zag,Zah,Zct])⟩,trivial⟩,trivial⟩ (Zac (Zhn (Zbn (Zac (Zam ?_)))))
    obtain ⟨v_3,s'_3,hx3_0,hx3_1,hx3_2,hx3_3,hc3⟩:=Zdh s'_1 40 (by first|assumption|(simp only [Zba] at*;simp_all;done)) om
    refine x_r [(1,.lend [(7001,Zaa s'_1,Zaa s'_3)] [] [(true,.any),(true,.any)] true (I v_3))] [2] [7001] [I v_3] [some (Zaa s'_3)] [Zao Try.prog 39 [.ref 7001 0,I 40] (Zab [(7001,Zaa s'_1)]) true (I v_3) (Zab [(7001,Zaa s'_3)])∧(((Zaa s'_1:Ob)=Zaa s'_1∨Zef Zdl true (Zaa s'_1) (Zaa s'_1))∧Zan false (Zaa s'_1))∧True] ⟨⟨hc3,⟨.inl rfl,(by simp [Zan,Zag,Zah,Zct])⟩,trivial⟩,trivial⟩ (Zac (Zby ?_))
    refine Zbd (v_3,s'_3) (show (-1≤v_3∧v_3≤4096)∧(Zba s'_3)∧(s'_3.code=s.code)∧(s.atx+0≤s'_3.atx∧s'_3.atx≤s.atx+20)∧(True) from ⟨(by first|omega|assumption|rfl|(simp;done)|(simp;omega)|(simp_all;done)),(by first|omega|assumption|rfl|(simp;done)|(simp;omega)|(simp_all;done)),(by first|omega|assumption|rfl|(simp;done)|(simp;omega)|(simp_all;done)),(by first|omega|assumption|rfl|(simp;done)|(simp;omega)|(simp_all;done)),trivial⟩) (⟨.inl rfl,trivial⟩) (I v_3) (by kernel_rfl) (.inl rfl) (fun _=>rfl) (fun _=>trivial)
  obtain ⟨⟨v,s'⟩,⟨hh0,hh1,hh2,hh3,_⟩,hc⟩:=hh
  exact ⟨v,s',hh0,hh1,hh2,hh3,hc⟩
theorem Zht (code:List Int) (hc:(∀j,j<code.length→0≤at_ code j∧at_ code j≤255)∧code.length≤4611686018427387904):∃(boxes:List Box) (items:List Int) (gap:Int),(boxes.length≤100)∧(items.length≤100)∧Con Try.prog 20 [Zii false code] true (.tup [Zae true boxes,slI true items,I gap]):=by
 have hh:∃r:(List Box)×(List Int)×Int,((r.1.length≤100)∧(r.2.1.length≤100)∧(True))∧Zao Try.prog 20 [Zii false code] (Zab []) true (.tup [Zae true r.1,slI true r.2.1,I r.2.2]) (Zab []):=by
  refine Zcp (Φ:=fun r:(List Box)×(List Int)×Int=>(r.1.length≤100)∧(r.2.1.length≤100)∧(True)) [] (fun r=>[]) (fn:=Try.f20) (nt:=19) Try.func20 rfl rfl (args:=[Zii false code]) rfl (Zap (.inl ⟨rfl,Zct false _⟩) Zco) (res:=fun r=> .tup [Zae true r.1,slI true r.2.1,I r.2.2]) ?_
  refine xQ [] [0] [] [] trivial (Zam ?_)
  obtain ⟨s'_1,hx1_0,hc1⟩:=Zny code
  have hsrc:Zba s'_1:=⟨by rw [hx1_0.1];exact hc.1,by rw [hx1_0.2];decide,by rw [hx1_0.1];exact hc.2⟩
  have hat0:=hx1_0.2
  refine x_q [(1,.lend [] [(7001,Zaa s'_1)] [(true,.any)] false (.ref 7001 0))] [5] [7001] [Zao Try.prog 29 [Zii false code] (Zab []) false (.ref 7001 0) (Zab [(7001,Zaa s'_1)])∧True] ⟨⟨hc1,trivial⟩,trivial⟩ (Zac (Zam ?_))
  obtain ⟨v_2,s'_2,hx2_0,hx2_1,hx2_2,hx2_3,hx2_4,hc2⟩:=Zmh s'_1 (by first|assumption|(simp only [Zba] at*;simp_all;done)) om
  refine x_q [(1,.lend [(7001,Zaa s'_1,Zaa s'_2)] [] [(true,.any)] true (Zae true v_2))] [5,6] [7001] [Zao Try.prog 30 [.ref 7001 0] (Zab [(7001,Zaa s'_1)]) true (Zae true v_2) (Zab [(7001,Zaa s'_2)])∧(((Zaa s'_1:Ob)=Zaa s'_1∨Zef Zdl true (Zaa s'_1) (Zaa s'_1))∧Zan false (Zaa s'_1))∧True] ⟨⟨hc2,⟨.inl rfl,(by simp [Zan,Zag,Zah,Zct])⟩,trivial⟩,trivial⟩ (Zac (Zam ?_))
  obtain ⟨v_3,s'_3,hx3_0,hx3_1,hx3_2,hx3_3,hc3⟩:=Zkm s'_2 v_2 (by first|assumption|(simp only [Zba] at*;simp_all;done)) om om
  refine x_r [(2,.lend [(7001,Zaa s'_2,Zaa s'_3)] [] [(true,.any),(false,Zae false v_2)] true (slI true v_3))] [5,6,7] [7001] [.ref 7001 0,Zae true v_2,slI true v_3] [some (Zaa s'_3)] [Zao Try.prog 52 [.ref 7001 0,Zae false v_2] (Zab [(7001,Zaa s'_2)]) true (slI true v_3) (Zab [(7001,Zaa s'_3)])∧((false=true→true=true)∧4=4∧v_2.length=v_2.length∧∀i_,i_<v_2.length→(Zdr v_2) i_=(Zdr v_2) i_∨(AV.idsL ((Zdr v_2) i_)=[]∧leL (fun _=>none) false ((Zdr v_2) i_) ((Zdr v_2) i_)))∧(((Zaa s'_2:Ob)=Zaa s'_2∨Zef Zdl true (Zaa s'_2) (Zaa s'_2))∧Zan false (Zaa s'_2))∧True] ⟨⟨hc3,⟨(fun h=>by cases h),rfl,rfl,fun i _=> .inl rfl⟩,⟨.inl rfl,(by simp [Zan,Zag,Zah,Zct])⟩,trivial⟩,trivial⟩ (Zac (Zam ?_))
  obtain ⟨v_4,s'_4,hx4_0,hx4_1,hx4_2,hx4_3,hc4⟩:=Zgq s'_3 (by first|assumption|(simp only [Zba] at*;simp_all;done)) om
  refine x_r [(3,.lend [(7001,Zaa s'_3,Zaa s'_4)] [] [(true,.any)] true (I v_4))] [2,3,4] [] [Zae true v_2,slI true v_3,I v_4] [] [Zao Try.prog 31 [.ref 7001 0] (Zab [(7001,Zaa s'_3)]) true (I v_4) (Zab [(7001,Zaa s'_4)])∧(((Zaa s'_3:Ob)=Zaa s'_3∨Zef Zdl true (Zaa s'_3) (Zaa s'_3))∧Zan false (Zaa s'_3))∧True] ⟨⟨hc4,⟨.inl rfl,(by simp [Zan,Zag,Zah,Zct])⟩,trivial⟩,trivial⟩ (Zac (Zby ?_))
  refine Zbd (v_2,v_3,v_4) (show (v_2.length≤100)∧(v_3.length≤100)∧(True) from ⟨(by first|omega|assumption|rfl|(simp;done)|(simp;omega)|(simp_all;done)),(by first|omega|assumption|rfl|(simp;done)|(simp;omega)|(simp_all;done)),trivial⟩) (trivial) (.tup [Zae true v_2,slI true v_3,I v_4]) (by kernel_rfl) (.inl rfl) (fun _=>rfl) (fun _=>(by simp [Zah,Zag,Zbo,Zft]))
 obtain ⟨⟨boxes,items,gap⟩,⟨hh0,hh1,_⟩,hc⟩:=hh
 exact ⟨boxes,items,gap,hh0,hh1,hc⟩
theorem Zec (n:Int) (low:Int) (high:Int):Con Try.prog 43 [I n,I low,I high] true (Bv (inB n low high)):=by
  refine Zda (fn:=Try.f43) (nt:=15) Try.func43 rfl rfl rfl rfl (by simp [Zag,Zah]) fun B hB=> ?_
  refine aQ [] [0,1,2] [] [] hB trivial (Zai ?_)
  by_cases h1:low≤n
  ·refine Zei [(2,.dec true)] [6] [] [Bv (decide (n≤high))] [] [_] hB ⟨h1,trivial⟩ (Zad (Zaz ?_))
   refine Zax hB (Bv (decide (n≤high))) (by kernel_rfl) (.inl (by first|rfl|(refine congrArg Bv ?_;simp [inB, *];done)|(refine congrArg Bv ?_;simp [inB, *];omega)|(refine congrArg Bv ?_;simp_all [inB];done)|(refine congrArg Bv ?_;simp_all [inB];omega))) rfl (fun _=>trivial)
  refine Zei [(2,.dec false)] [6] [] [Bv false] [] [_] hB ⟨h1,trivial⟩ (Zad (Zaz ?_))
  refine Zax hB (Bv false) (by kernel_rfl) (.inl (by first|rfl|(refine congrArg Bv ?_;simp [inB, *];done)|(refine congrArg Bv ?_;simp [inB, *];omega)|(refine congrArg Bv ?_;simp_all [inB];done)|(refine congrArg Bv ?_;simp_all [inB];omega))) rfl (fun _=>trivial)
theorem Ztd (b:Box):Con Try.prog 62 [Zkl b] true (Bv (Zdp b)):=by
  refine Zda (fn:=Try.f62) (nt:=25) Try.func62 rfl rfl rfl rfl (by simp [Zag,Zah]) fun B hB=> ?_
  refine aQ [(0,.new 1)] [1] [1] [] hB trivial (Zai ?_)
  rcases Bool.eq_false_or_eq_true (inB b.X1 0 b.X2) with h1|h1
  ·rcases Bool.eq_false_or_eq_true (inB b.Y1 0 b.Y2) with h2|h2
   ·by_cases h3:b.X2≤4095
    ·refine Zei [(4,.call [(true,.any),(true,.any),(true,.any)] true (Bv true)),(10,.call [(true,.any),(true,.any),(true,.any)] true (Bv true)),(15,.dec true)] [2] [] [Bv (decide (b.Y2≤4095))] [] [Con Try.prog 43 [I b.X1,I 0,I b.X2] true (Bv true)∧True,Con Try.prog 43 [I b.Y1,I 0,I b.Y2] true (Bv true)∧True,_] hB ⟨⟨(Zak h1 (Zec b.X1 0 b.X2)),trivial⟩,⟨(Zak h2 (Zec b.Y1 0 b.Y2)),trivial⟩,h3,trivial⟩ (Zad (Zaz ?_))
     refine Zax hB (Bv (decide (b.Y2≤4095))) (by kernel_rfl) (.inl (by first|rfl|(refine congrArg Bv ?_;simp [Zdp,inB, *];done)|(refine congrArg Bv ?_;simp [Zdp,inB, *];omega)|(refine congrArg Bv ?_;simp_all [Zdp,inB];done)|(refine congrArg Bv ?_;simp_all [Zdp,inB];omega))) rfl (fun _=>trivial)
    refine Zei [(4,.call [(true,.any),(true,.any),(true,.any)] true (Bv true)),(10,.call [(true,.any),(true,.any),(true,.any)] true (Bv true)),(15,.dec false)] [2] [] [Bv false] [] [Con Try.prog 43 [I b.X1,I 0,I b.X2] true (Bv true)∧True,Con Try.prog 43 [I b.Y1,I 0,I b.Y2] true (Bv true)∧True,_] hB ⟨⟨(Zak h1 (Zec b.X1 0 b.X2)),trivial⟩,⟨(Zak h2 (Zec b.Y1 0 b.Y2)),trivial⟩,h3,trivial⟩ (Zad (Zaz ?_))
    refine Zax hB (Bv false) (by kernel_rfl) (.inl (by first|rfl|(refine congrArg Bv ?_;simp [Zdp,inB, *];done)|(refine congrArg Bv ?_;simp [Zdp,inB, *];omega)|(refine congrArg Bv ?_;simp_all [Zdp,inB];done)|(refine congrArg Bv ?_;simp_all [Zdp,inB];omega))) rfl (fun _=>trivial)
   refine Zei [(4,.call [(true,.any),(true,.any),(true,.any)] true (Bv true)),(10,.call [(true,.any),(true,.any),(true,.any)] true (Bv false))] [2] [] [Bv false] [] [Con Try.prog 43 [I b.X1,I 0,I b.X2] true (Bv true)∧True,Con Try.prog 43 [I b.Y1,I 0,I b.Y2] true (Bv false)∧True] hB ⟨⟨(Zak h1 (Zec b.X1 0 b.X2)),trivial⟩,⟨(Zak h2 (Zec b.Y1 0 b.Y2)),trivial⟩,trivial⟩ (Zad (Zaz ?_))
   refine Zax hB (Bv false) (by kernel_rfl) (.inl (by first|rfl|(refine congrArg Bv ?_;simp [Zdp,inB, *];done)|(refine congrArg Bv ?_;simp [Zdp,inB, *];omega)|(refine congrArg Bv ?_;simp_all [Zdp,inB];done)|(refine congrArg Bv ?_;simp_all [Zdp,inB];omega))) rfl (fun _=>trivial)
  refine Zei [(4,.call [(true,.any),(true,.any),(true,.any)] true (Bv false))] [2] [] [Bv false] [] [Con Try.prog 43 [I b.X1,I 0,I b.X2] true (Bv false)∧True] hB ⟨⟨(Zak h1 (Zec b.X1 0 b.X2)),trivial⟩,trivial⟩ (Zad (Zaz ?_))
  refine Zax hB (Bv false) (by kernel_rfl) (.inl (by first|rfl|(refine congrArg Bv ?_;simp [Zdp,inB, *];done)|(refine congrArg Bv ?_;simp [Zdp,inB, *];omega)|(refine congrArg Bv ?_;simp_all [Zdp,inB];done)|(refine congrArg Bv ?_;simp_all [Zdp,inB];omega))) rfl (fun _=>trivial)
theorem Zob (b:Box):Con Try.prog 61 [Zkl b] true (Bv (!(Zdp b))):=by
 refine Zda (fn:=Try.f61) (nt:=6) Try.func61 rfl rfl rfl rfl (by simp [Zag,Zah]) fun B hB=> ?_
 refine aQ [(0,.new 1)] [1] [1] [] hB trivial ?_
 refine aR [(1,.call [(true,.any)] true (Bv (Zdp b)))] [2] [] [Bv (!(Zdp b))] [] [_∧True] hB ⟨⟨(Ztd b),trivial⟩,trivial⟩ (Zaz ?_)
 refine Zax hB (Bv (!(Zdp b))) (by kernel_rfl) (.inl rfl) rfl (fun _=>trivial)
theorem Zjl (s:List Box):Con Try.prog 75 [Zae false s,.fn 61 []] true (I (Zdx s.length (fun j=>(!(Zdp (at_ s j)))))):=by
  refine Zda (fn:=Try.f75) (nt:=19) Try.func75 rfl rfl rfl rfl (by simp [Zag,Zah,Zbo]) fun B hB=> ?_
  refine Zbt (x:=Zae false s) 0 rfl (fun len_s=> ?_)
  simp [Zdb,Zfv,Znw,Zdr,Zae] at len_s
  refine aQ [] [0,1] [] [] hB trivial (Zai ?_)
  refine aR [] [0,1,7,8] [] [Zae false s,.fn 61 [],I (s.length:Int),I 0] [] [] hB trivial (Zar ?_)
  refine Zcg (fun gn gσ=>∃(t8:Int),gn=((s.length:Int)-t8).toNat∧(0≤t8∧t8≤(s.length:Int))∧(∀j:Nat,(j:Int)<t8→(!(Zdp (at_ s j)))=false)∧gσ=mkS [(0,Zae false s),(1,.fn 61 []),(7,I (s.length:Int)),(8,I t8)] []) (((s.length:Int)-0).toNat) ⟨0,rfl,om,(by intro j hj;omega),rfl⟩ (fun gn gσ hI=> ?_)
  obtain ⟨t8,rfl,hi0,hall0,rfl⟩:=hI
  refine Zai ?_
  by_cases h1:t8<(s.length:Int)
  ·have hi:t8.toNat<s.length:=by omega
   refine Zbz [(0,.dec true)] [0,1,7,8,9] [] [_] hB ⟨h1,trivial⟩ (Zad (Zai (Zcf (Zaq (Zad (Zai (Zar ?_)))))))
   refine aQ [] [0,1,5,7,8] [] [] hB trivial (Zai ?_)
   rcases Bool.eq_false_or_eq_true (!(Zdp (at_ s t8.toNat))) with h2|h2
   ·have hfin:Zdx s.length (fun j=>(!(Zdp (at_ s j))))=t8.toNat:=Znz hi h2 (fun j hj=>hall0 j om)
    refine Zbz [(5,.call [(true,.any)] true (Bv true))] [0,1,5,7,8,16] [] [(0:Int)≤t8∧t8<(s.length:Int),Con Try.prog 61 [Zkl (at_ s t8.toNat)] true (Bv true)∧True] hB ⟨⟨om,om⟩,⟨(Zak h2 (Zob (at_ s t8.toNat))),trivial⟩,trivial⟩ (Zad (Zcf ?_))
    refine aR [] [4] [] [I t8] [] [] hB trivial (Zaz ?_)
    refine Zau (Zal (Zal (Zau (Zal ?_))))
    refine Zax hB (I t8) (by kernel_rfl) (.inl (by refine congrArg I ?_;first|(rw [hfin];done)|(rw [hfin];omega))) rfl (fun _=>trivial)
   refine Zbz [(5,.call [(true,.any)] true (Bv false))] [0,1,5,7,8,16] [] [(0:Int)≤t8∧t8<(s.length:Int),Con Try.prog 61 [Zkl (at_ s t8.toNat)] true (Bv false)∧True] hB ⟨⟨om,om⟩,⟨(Zak h2 (Zob (at_ s t8.toNat))),trivial⟩,trivial⟩ (Zad (Zbw (Zaq (Zbq 1 (Zad ?_)))))
   refine Zei [] [0,1,7,8] [] [Zae false s,.fn 61 [],I (s.length:Int),I (t8+1)] [] [inR .i64 (t8+1)] hB ⟨(Zaf om om),trivial⟩ ?_
   exact Zbr _ om ⟨(t8+1),rfl,om,(by intro j hj;by_cases ej:j=t8.toNat;(subst ej;first|assumption|rfl);exact hall0 j om),rfl⟩
  have hfin:Zdx s.length (fun j=>(!(Zdp (at_ s j))))=-1:=Zih (fun j hj=>hall0 j om)
  refine Zbz [(0,.dec false)] [0,1,7,8,9] [] [_] hB ⟨h1,trivial⟩ (Zad (Zai (Zbw (Zcl (Zaj (Zaj (Zav (Zad ?_))))))))
  refine aR [] [4] [] [I (-1)] [] [] hB trivial (Zaz ?_)
  refine Zax hB (I (-1)) (by kernel_rfl) (.inl (by refine congrArg I ?_;first|(rw [hfin];done)|(rw [hfin];omega))) rfl (fun _=>trivial)
theorem Znc (s:List Box):Con Try.prog 60 [Zae false s,.fn 61 []] true (Bv (Zsy s.length (fun j=>(!(Zdp (at_ s j)))))):=by
 refine Zda (fn:=Try.f60) (nt:=9) Try.func60 rfl rfl rfl rfl (by simp [Zag,Zah,Zbo]) fun B hB=> ?_
 refine Zbt (x:=Zae false s) 0 rfl (fun len_s=> ?_)
 simp [Zdb,Zfv,Znw,Zdr,Zae] at len_s
 refine aQ [] [0,1] [] [] hB trivial ?_
 refine aR [(2,.call [(true,.any),(true,.any)] true (I (Zdx s.length (fun j=>(!(Zdp (at_ s j)))))))] [4] [] [Bv (decide (0≤(Zdx s.length (fun j=>(!(Zdp (at_ s j)))))))] [] [_∧True] hB ⟨⟨(Zjl s),trivial⟩,trivial⟩ (Zaz ?_)
 refine Zax hB (Bv (decide (0≤(Zdx s.length (fun j=>(!(Zdp (at_ s j)))))))) (by kernel_rfl) (.inl (by exact congrArg Bv (Zoa _ _))) rfl (fun _=>trivial)
theorem Zgb (boxes:List Box):Con Try.prog 32 [Zae false boxes] true (Bv (Zbp boxes)):=by
  refine Zda (fn:=Try.f32) (nt:=11) Try.func32 rfl rfl rfl rfl (by simp [Zag,Zah,Zbo]) fun B hB=> ?_
  refine Zbt (x:=Zae false boxes) 0 rfl (fun len_boxes=> ?_)
  simp [Zdb,Zfv,Znw,Zdr,Zae] at len_boxes
  refine aQ [] [0] [] [] hB trivial (Zai ?_)
  by_cases h1:(boxes.length:Int)≤60
  ·refine Zei [(2,.dec true),(5,.call [(true,.any),(true,.any)] true (Bv (Zsy boxes.length (fun j=>(!(Zdp (at_ boxes j)))))))] [2] [] [Bv (!(Zsy boxes.length (fun j=>(!(Zdp (at_ boxes j))))))] [] [_,_∧True] hB ⟨h1,⟨(Znc boxes),trivial⟩,trivial⟩ (Zad (Zaz ?_))
   refine Zax hB (Bv (!(Zsy boxes.length (fun j=>(!(Zdp (at_ boxes j))))))) (by kernel_rfl) (.inl (by refine congrArg Bv ?_;unfold Zbp;first|(rw [decide_eq_false om];rfl)|(rw [Zps,decide_eq_true om];simp))) rfl (fun _=>trivial)
  refine Zei [(2,.dec false)] [2] [] [Bv false] [] [_] hB ⟨h1,trivial⟩ (Zad (Zaz ?_))
  refine Zax hB (Bv false) (by kernel_rfl) (.inl (by refine congrArg Bv ?_;unfold Zbp;first|(rw [decide_eq_false om];rfl)|(rw [Zps,decide_eq_true om];simp))) rfl (fun _=>trivial)
theorem Zfq (n:Int):Con Try.prog 33 [I n] true (Bv (inB n 0 4095)):=by
 refine Zda (fn:=Try.f33) (nt:=5) Try.func33 rfl rfl rfl rfl (by simp [Zag,Zah]) fun B hB=> ?_
 refine aQ [] [0] [] [] hB trivial ?_
 refine aR [(1,.call [(true,.any),(true,.any),(true,.any)] true (Bv (inB n 0 4095)))] [2] [] [Bv (inB n 0 4095)] [] [_∧True] hB ⟨⟨(Zec n 0 4095),trivial⟩,trivial⟩ (Zaz ?_)
 refine Zax hB (Bv (inB n 0 4095)) (by kernel_rfl) (.inl rfl) rfl (fun _=>trivial)
theorem Zhs (k:Int) (boxes:List Box) (hbl:boxes.length≤1000000):Con Try.prog 73 [I k,.ptr false [Zae false boxes]] true (Bv (!(inB k 0 ((boxes.length:Int)-1)))):=by
 refine Zda (fn:=Try.f73) (nt:=10) Try.func73 rfl rfl rfl rfl (by simp [Zag,Zah,Zbo]) fun B hB=> ?_
 refine Zbt (x:= .ptr false [Zae false boxes]) 1 rfl (fun len_boxes=> ?_)
 simp [Zdb,Zfv,Znw,Zdr,Zae] at len_boxes
 refine aQ [] [0,1] [] [] hB trivial ?_
 refine aR [(4,.call [(true,.any),(true,.any),(true,.any)] true (Bv (inB k 0 ((boxes.length:Int)-1))))] [3] [] [Bv (!(inB k 0 ((boxes.length:Int)-1)))] [] [inR .i64 ((boxes.length:Int)-1),_∧True] hB ⟨(Zaf om om),⟨(Zec k 0 ((boxes.length:Int)-1)),trivial⟩,trivial⟩ (Zaz ?_)
 refine Zax hB (Bv (!(inB k 0 ((boxes.length:Int)-1)))) (by kernel_rfl) (.inl rfl) rfl (fun _=>trivial)
theorem Zkc (s:List Int) (boxes:List Box) (hel:∀j,j<s.length→boxes.length≤1000000):Con Try.prog 83 [slI false s,.fn 73 [.ptr false [Zae false boxes]]] true (I (Zdx s.length (fun j=>(!(inB (at_ s j) 0 ((boxes.length:Int)-1)))))):=by
  refine Zda (fn:=Try.f83) (nt:=19) Try.func83 rfl rfl rfl rfl (by simp [Zag,Zah,Zbo,Zft]) fun B hB=> ?_
  refine Zbt (x:=slI false s) 0 rfl (fun len_s=> ?_)
  simp [Zdb,Zfv,cI,fI,slI] at len_s
  refine aQ [] [0,1] [] [] hB trivial (Zai ?_)
  refine aR [] [0,1,7,8] [] [slI false s,.fn 73 [.ptr false [Zae false boxes]],I (s.length:Int),I 0] [] [] hB trivial (Zar ?_)
  refine Zcg (fun gn gσ=>∃(t8:Int),gn=((s.length:Int)-t8).toNat∧(0≤t8∧t8≤(s.length:Int))∧(∀j:Nat,(j:Int)<t8→(!(inB (at_ s j) 0 ((boxes.length:Int)-1)))=false)∧gσ=mkS [(0,slI false s),(1,.fn 73 [.ptr false [Zae false boxes]]),(7,I (s.length:Int)),(8,I t8)] []) (((s.length:Int)-0).toNat) ⟨0,rfl,om,(by intro j hj;omega),rfl⟩ (fun gn gσ hI=> ?_)
  obtain ⟨t8,rfl,hi0,hall0,rfl⟩:=hI
  refine Zai ?_
  by_cases h1:t8<(s.length:Int)
  ·have hi:t8.toNat<s.length:=by omega
   refine Zbz [(0,.dec true)] [0,1,7,8,9] [] [_] hB ⟨h1,trivial⟩ (Zad (Zai (Zcf (Zaq (Zad (Zai (Zar ?_)))))))
   refine aQ [] [0,1,5,7,8] [] [] hB trivial (Zai ?_)
   rcases Bool.eq_false_or_eq_true (!(inB (at_ s t8.toNat) 0 ((boxes.length:Int)-1))) with h2|h2
   ·have hfin:Zdx s.length (fun j=>(!(inB (at_ s j) 0 ((boxes.length:Int)-1))))=t8.toNat:=Znz hi h2 (fun j hj=>hall0 j om)
    refine Zbz [(5,.call [(true,.any),(true,.any)] true (Bv true))] [0,1,5,7,8,16] [] [(0:Int)≤t8∧t8<(s.length:Int),Con Try.prog 73 [I (at_ s t8.toNat),.ptr false [Zae false boxes]] true (Bv true)∧True] hB ⟨⟨om,om⟩,⟨(Zak h2 (Zhs (at_ s t8.toNat) boxes (hel _ hi))),trivial⟩,trivial⟩ (Zad (Zcf ?_))
    refine aR [] [4] [] [I t8] [] [] hB trivial (Zaz ?_)
    refine Zau (Zal (Zal (Zau (Zal ?_))))
    refine Zax hB (I t8) (by kernel_rfl) (.inl (by refine congrArg I ?_;first|(rw [hfin];done)|(rw [hfin];omega))) rfl (fun _=>trivial)
   refine Zbz [(5,.call [(true,.any),(true,.any)] true (Bv false))] [0,1,5,7,8,16] [] [(0:Int)≤t8∧t8<(s.length:Int),Con Try.prog 73 [I (at_ s t8.toNat),.ptr false [Zae false boxes]] true (Bv false)∧True] hB ⟨⟨om,om⟩,⟨(Zak h2 (Zhs (at_ s t8.toNat) boxes (hel _ hi))),trivial⟩,trivial⟩ (Zad (Zbw (Zaq (Zbq 1 (Zad ?_)))))
   refine Zei [] [0,1,7,8] [] [slI false s,.fn 73 [.ptr false [Zae false boxes]],I (s.length:Int),I (t8+1)] [] [inR .i64 (t8+1)] hB ⟨(Zaf om om),trivial⟩ ?_
   exact Zbr _ om ⟨(t8+1),rfl,om,(by intro j hj;by_cases ej:j=t8.toNat;(subst ej;first|assumption|rfl);exact hall0 j om),rfl⟩
  have hfin:Zdx s.length (fun j=>(!(inB (at_ s j) 0 ((boxes.length:Int)-1))))=-1:=Zih (fun j hj=>hall0 j om)
  refine Zbz [(0,.dec false)] [0,1,7,8,9] [] [_] hB ⟨h1,trivial⟩ (Zad (Zai (Zbw (Zcl (Zaj (Zaj (Zav (Zad ?_))))))))
  refine aR [] [4] [] [I (-1)] [] [] hB trivial (Zaz ?_)
  refine Zax hB (I (-1)) (by kernel_rfl) (.inl (by refine congrArg I ?_;first|(rw [hfin];done)|(rw [hfin];omega))) rfl (fun _=>trivial)
theorem Zpw (s:List Int) (boxes:List Box) (hel:∀j,j<s.length→boxes.length≤1000000):Con Try.prog 72 [slI false s,.fn 73 [.ptr false [Zae false boxes]]] true (Bv (Zsy s.length (fun j=>(!(inB (at_ s j) 0 ((boxes.length:Int)-1)))))):=by
 refine Zda (fn:=Try.f72) (nt:=9) Try.func72 rfl rfl rfl rfl (by simp [Zag,Zah,Zbo,Zft]) fun B hB=> ?_
 refine Zbt (x:=slI false s) 0 rfl (fun len_s=> ?_)
 simp [Zdb,Zfv,cI,fI,slI] at len_s
 refine aQ [] [0,1] [] [] hB trivial ?_
 refine aR [(2,.call [(true,.any),(true,.any)] true (I (Zdx s.length (fun j=>(!(inB (at_ s j) 0 ((boxes.length:Int)-1)))))))] [4] [] [Bv (decide (0≤(Zdx s.length (fun j=>(!(inB (at_ s j) 0 ((boxes.length:Int)-1)))))))] [] [_∧True] hB ⟨⟨(Zkc s boxes hel),trivial⟩,trivial⟩ (Zaz ?_)
 refine Zax hB (Bv (decide (0≤(Zdx s.length (fun j=>(!(inB (at_ s j) 0 ((boxes.length:Int)-1)))))))) (by kernel_rfl) (.inl (by exact congrArg Bv (Zoa _ _))) rfl (fun _=>trivial)
theorem Zji (boxes:List Box) (items:List Int) (hbl:boxes.length≤1000000):Con Try.prog 50 [Zae false boxes,slI false items] true (Bv (inIx boxes items)):=by
 refine Zda (fn:=Try.f50) (nt:=9) Try.func50 rfl rfl rfl rfl (by simp [Zag,Zah,Zbo,Zft]) fun B hB=> ?_
 refine Zbt (x:=Zae false boxes) 0 rfl (fun len_boxes=> ?_)
 simp [Zdb,Zfv,Znw,Zdr,Zae] at len_boxes
 refine Zbt (x:=slI false items) 1 rfl (fun len_items=> ?_)
 simp [Zdb,Zfv,cI,fI,slI] at len_items
 refine aQ [(0,.new 2)] [1,2] [2] [] hB trivial ?_
 refine aR [(2,.call [(true,.any),(false,.fn 73 [.ptr false [Zae false boxes]])] true (Bv (Zsy items.length (fun j=>(!(inB (at_ items j) 0 ((boxes.length:Int)-1)))))))] [4] [] [Bv (!(Zsy items.length (fun j=>(!(inB (at_ items j) 0 ((boxes.length:Int)-1))))))] [] [_∧(73=73∧((false=true→true=true)∧AV.idsL [Zae false boxes]=[]∧((false=true→false=true)∧4=4∧boxes.length=boxes.length∧∀i_,i_<boxes.length→(Zdr boxes) i_=(Zdr boxes) i_∨(AV.idsL ((Zdr boxes) i_)=[]∧leL (fun _=>none) false ((Zdr boxes) i_) ((Zdr boxes) i_)))∧([]:List AV)=[])∧([]:List AV)=[])∧True] hB ⟨⟨(Zpw items boxes (fun _ _=>hbl)),⟨rfl,⟨⟨(fun h=>by cases h),rfl,⟨⟨(fun h=>by cases h),rfl,rfl,fun i _=> .inl rfl⟩,rfl⟩⟩,rfl⟩⟩,trivial⟩,trivial⟩ (Zaz ?_)
 refine Zax hB (Bv (!(Zsy items.length (fun j=>(!(inB (at_ items j) 0 ((boxes.length:Int)-1))))))) (by kernel_rfl) (.inl (by refine congrArg Bv ?_;unfold inIx;rw [Zps];simp)) rfl (fun _=>trivial)
theorem Zrr (x:Int):Con Try.prog 77 [I x] true (Bv false):=by
 refine Zda (fn:=Try.f77) (nt:=6) Try.func77 rfl rfl rfl rfl (by simp [Zag,Zah]) fun B hB=> ?_
 refine aQ [] [0] [] [] hB trivial ?_
 refine aR [(2,.dec false)] [2] [] [Bv false] [] [¬ (x≠x)] hB ⟨(fun hq=>hq rfl),trivial⟩ (Zaz ?_)
 refine Zax hB (Bv false) (by kernel_rfl) (.inl rfl) rfl (fun _=>trivial)
theorem Zgn (x:Int) (y:Int):Con Try.prog 65 [I x,I y] true (I (Zed x y)):=by
  refine Zda (fn:=Try.f65) (nt:=20) Try.func65 rfl rfl rfl rfl (by simp [Zag,Zah]) fun B hB=> ?_
  refine aQ [] [0,1] [] [] hB trivial ?_
  refine aQ [(1,.call [(true,.any)] true (Bv false))] [0,1,5] [] [_∧True] hB ⟨⟨(Zrr x),trivial⟩,trivial⟩ ?_
  refine aQ [(1,.call [(true,.any)] true (Bv false))] [0,1,5,6] [] [_∧True] hB ⟨⟨(Zrr y),trivial⟩,trivial⟩ (Zai ?_)
  refine aR [] [0,1,6,11] [] [I x,I y,Bv false,Bv false] [] [] hB trivial (Zds rfl (Zaq (Zad (Zai ?_))))
  refine aQ [] [0,1,13] [] [] hB trivial (Zbw (Zaq (Zad (Zai (Zai ?_)))))
  by_cases h1:x<y
  ·refine Zbz [(2,.dec true)] [0,1,16] [] [_] hB ⟨h1,trivial⟩ (Zad (Zcf ?_))
   refine aR [] [4] [] [I (-1)] [] [] hB trivial (Zaz (Zal ?_))
   refine Zax hB (I (-1)) (by kernel_rfl) (.inl (by refine congrArg I ?_;unfold Zed;first|(rw [if_pos om];done)|(rw [if_neg om,if_pos om];done)|(rw [if_neg om,if_neg om];done))) rfl (fun _=>trivial)
  refine Zbz [(2,.dec false)] [0,1,16] [] [_] hB ⟨h1,trivial⟩ (Zad (Zbw (Zaq (Zad (Zai (Zai ?_))))))
  by_cases h2:y<x
  ·refine Zbz [(2,.dec true)] [19] [] [_] hB ⟨h2,trivial⟩ (Zad (Zcf ?_))
   refine aR [] [4] [] [I 1] [] [] hB trivial (Zaz (Zal ?_))
   refine Zax hB (I 1) (by kernel_rfl) (.inl (by refine congrArg I ?_;unfold Zed;first|(rw [if_pos om];done)|(rw [if_neg om,if_pos om];done)|(rw [if_neg om,if_neg om];done))) rfl (fun _=>trivial)
  refine Zbz [(2,.dec false)] [19] [] [_] hB ⟨h2,trivial⟩ (Zad (Zbw (Zaq (Zad ?_))))
  refine aR [] [4] [] [I 0] [] [] hB trivial (Zaz ?_)
  refine Zax hB (I 0) (by kernel_rfl) (.inl (by refine congrArg I ?_;unfold Zed;first|(rw [if_pos om];done)|(rw [if_neg om,if_pos om];done)|(rw [if_neg om,if_neg om];done))) rfl (fun _=>trivial)
theorem OrI_ok (vals:List Int):Con Try.prog 81 [slI false vals] true (I (orL vals)):=by
  refine Zda (fn:=Try.f81) (nt:=18) Try.func81 rfl rfl rfl rfl (by simp [Zag,Zah,Zft]) fun B hB=> ?_
  refine Zbt (x:=slI false vals) 0 rfl (fun len_vals=> ?_)
  simp [Zdb,Zfv,cI,fI,slI] at len_vals
  refine aQ [] [0] [] [] hB trivial ?_
  refine aQ [] [0,3] [] [] hB trivial (Zai ?_)
  refine aR [] [3,6,7,8] [] [I 0,slI false vals,I (vals.length:Int),I 0] [] [] hB trivial (Zar ?_)
  refine Zcg (fun gn gσ=>∃(t8:Int),gn=((vals.length:Int)-t8).toNat∧(0≤t8∧t8≤(vals.length:Int))∧(∀j:Nat,(j:Int)<t8→at_ vals j=0)∧gσ=mkS [(3,I 0),(6,slI false vals),(7,I (vals.length:Int)),(8,I t8)] []) (((vals.length:Int)-0).toNat) ⟨0,rfl,om,(by intro j hj;omega),rfl⟩ (fun gn gσ hI=> ?_)
  obtain ⟨t8,rfl,hi0,hz0,rfl⟩:=hI
  refine Zai ?_
  by_cases h1:t8<(vals.length:Int)
  ·have hi:t8.toNat<vals.length:=by omega
   refine Zbz [(0,.dec true)] [3,6,7,8,9] [] [_] hB ⟨h1,trivial⟩ (Zad (Zai (Zcf (Zaq (Zad (Zai (Zar ?_)))))))
   refine aQ [] [3,5,6,7,8] [] [(0:Int)≤t8∧t8<(vals.length:Int)] hB ⟨⟨om,om⟩,trivial⟩ (Zai ?_)
   by_cases h2:(at_ vals t8.toNat)=0
   ·refine Zbz [(2,.dec false)] [3,5,6,7,8,14] [] [¬ ((at_ vals t8.toNat)≠0)] hB ⟨(fun hq=>hq h2),trivial⟩ (Zad (Zbw (Zaq (Zbq 1 (Zad ?_)))))
    refine Zei [] [3,6,7,8] [] [I 0,slI false vals,I (vals.length:Int),I (t8+1)] [] [inR .i64 (t8+1)] hB ⟨(Zaf om om),trivial⟩ ?_
    exact Zbr _ om ⟨(t8+1),rfl,om,(by intro j hj;by_cases ej:j=t8.toNat;(subst ej;assumption);exact hz0 j om),rfl⟩
   refine Zbz [(2,.dec true)] [3,5,6,7,8,14] [] [_] hB ⟨h2,trivial⟩ (Zad (Zcf ?_))
   refine aR [] [2] [] [I (at_ vals t8.toNat)] [] [] hB trivial (Zaz ?_)
   refine Zau (Zal (Zal (Zau (Zal ?_))))
   refine Zax hB (I (at_ vals t8.toNat)) (by kernel_rfl) (.inl (by refine congrArg I ?_;first|(rw [Zuv (fun j hj=>hz0 j om)];done)|(rw [Zuu hi (fun j hj=>hz0 j om) (by assumption)];done)|(rw [Zuu hi (fun j hj=>hz0 j om) (by assumption)]))) rfl (fun _=>trivial)
  refine Zbz [(0,.dec false)] [3,6,7,8,9] [] [_] hB ⟨h1,trivial⟩ (Zad (Zai (Zbw (Zcl (Zaj (Zaj (Zav (Zad ?_))))))))
  refine aR [] [2] [] [I 0] [] [] hB trivial (Zaz ?_)
  refine Zax hB (I 0) (by kernel_rfl) (.inl (by refine congrArg I ?_;first|(rw [Zuv (fun j hj=>hz0 j om)];done)|(rw [Zuu hi (fun j hj=>hz0 j om) (by assumption)];done)|(rw [Zuu hi (fun j hj=>hz0 j om) (by assumption)]))) rfl (fun _=>trivial)
end Go.Proofs.Ytfafngbbaplknaa.Ax
