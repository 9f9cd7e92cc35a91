/- The abstract run's operations: what each answers. Plain lemmas on the model. No conditions. -/
import Derived.Test.YtnlfghpgfjlblaaDoorAxB
import Derived.Laws.StructEq
namespace Go.Proofs.YtnlfghpgfjlblaaDoor.Ax
open Go.RowKit
set_option linter.unusedVariables false
set_option linter.unusedSimpArgs false
def Zef (an:Ans) (p:Prop) [Decidable p]:Option Out:=
 match an with
 | .n=>some {r:= .val (.bool (decide p))}
 | .dec true=>some {r:= .val (.bool true),c:=some (p)}
 | .dec false=>some {r:= .val (.bool false),c:=some (¬ p)}
 |_=>none
theorem Zgb {an:Ans} {p:Prop} [Decidable p] {out:Out} (h:Zef an p=some out) (hc:out.cond):out.r= .val (.bool (decide p))∧out.wr=[]:=by
 unfold Zef at h
 split at h<;>simp only [Option.some.injEq,reduceCtorEq] at h<;>subst h
 ·exact ⟨rfl,rfl⟩
 ·have hp:p:=hc
  exact ⟨by simp [hp],rfl⟩
 ·have hp:¬ p:=hc
  exact ⟨by simp [hp],rfl⟩
def Zwy (a b:ByteArray):Bool:=Op.bytesLess a.toList b.toList
def Zck (op:BinOp) (k:IntKind) (a b:Int):Int:=match op with
 | .and=>k.wrap ((BitVec.ofInt k.bits a&&&BitVec.ofInt k.bits b).toNat:Int)
 | .or=>k.wrap ((BitVec.ofInt k.bits a|||BitVec.ofInt k.bits b).toNat:Int)
 | .xor=>k.wrap ((BitVec.ofInt k.bits a^^^BitVec.ofInt k.bits b).toNat:Int)
 |_=>0
def isSh:BinOp→Bool
 | .shl=>true
 | .shr=>true
 |_=>false
def Zwz (op:BinOp) (an:Ans) (k:IntKind) (a b:Int):Option Out:=
 match op with
 | .shr=>some {r:= .val (.int k (a/((2^b.toNat:Nat):Int))),c:=some (0≤b∧b≤k.bits)}
 | .shl=>match an with
  | .n=>some {r:= .val (.int k (a*((2^b.toNat:Nat):Int))),c:=some (0≤b∧b≤k.bits∧inR k (a*((2^b.toNat:Nat):Int)))}
  | .wrap=>some {r:= .val (.int k (k.wrap (a*((2^b.toNat:Nat):Int)))),c:=some (0≤b∧b≤k.bits)}
  |_=>none
 |_=>none
theorem Zue {P:Program} {op:BinOp} {an:Ans} {k k':IntKind} {a b:Int} {out:Out} (h:Zwz op an k a b=some out) (hc:out.cond) (t:TypeId) (w:World):
  out.wr=[]∧∃v,out.r= .val v∧(binOp op t (.int k a) (.int k' b)).run P w= .ok v w:=by
 have hmin:∀ {b:Int},0≤b→b≤k.bits→min b.toNat k.bits=b.toNat:=fun h1 h2=>by omega
 cases op<;>simp only [Zwz,reduceCtorEq] at h
 case shr=>
  cases h
  obtain ⟨h1,h2⟩:=hc
  refine ⟨rfl,_,rfl,?_⟩
  have h3:¬ b<0:=by omega
  have hp:(0:Int)≤(2:Int)^b.toNat:=Int.pow_nonneg (by decide)
  simp [binOp,Op.shift,h3,hmin h1 h2]
  exact Int.fdiv_eq_ediv_of_nonneg _ hp
 case shl=>
  split at h<;>simp only [Option.some.injEq,reduceCtorEq] at h<;>subst h
  ·obtain ⟨h1,h2,h4⟩:=hc
   have h3:¬ b<0:=by omega
   have e:=Zft h4
   simp at e
   exact ⟨rfl,_,rfl,by simp [binOp,Op.shift,h3,hmin h1 h2,e]⟩
  ·obtain ⟨h1,h2⟩:=hc
   have h3:¬ b<0:=by omega
   exact ⟨rfl,_,rfl,by simp [binOp,Op.shift,h3,hmin h1 h2]⟩
def intA (op:BinOp) (an:Ans) (k:IntKind) (a b:Int):Option Out:=
 match op with
 | .add=>match an with
  | .n=>some {r:= .val (.int k (a+b)),c:=some (inR k (a+b))}
  | .wrap=>some {r:= .val (.int k (k.wrap (a+b)))}
  |_=>none
 | .sub=>match an with
  | .n=>some {r:= .val (.int k (a-b)),c:=some (inR k (a-b))}
  | .wrap=>some {r:= .val (.int k (k.wrap (a-b)))}
  |_=>none
 | .mul=>match an with
  | .n=>some {r:= .val (.int k (a*b)),c:=some (inR k (a*b))}
  | .wrap=>some {r:= .val (.int k (k.wrap (a*b)))}
  |_=>none
 | .quo=>match an with
  | .n=>some {r:= .val (.int k (a.tdiv b)),c:=some (b≠0∧inR k (a.tdiv b))}
  | .nn=>some {r:= .val (.int k (a/b)),c:=some (0≤a∧0<b∧inR k a)}
  |_=>none
 | .rem=>match an with
  | .n=>some {r:= .val (.int k (a.tmod b)),c:=some (b≠0)}
  | .nn=>some {r:= .val (.int k (a % b)),c:=some (0≤a∧0<b)}
  |_=>none
 | .and=>some {r:= .val (.int k (Zck .and k a b))}
 | .or=>some {r:= .val (.int k (Zck .or k a b))}
 | .xor=>some {r:= .val (.int k (Zck .xor k a b))}
 | .eql=>Zef an (a=b)
 | .neq=>Zef an (a≠b)
 | .lss=>Zef an (a<b)
 | .leq=>Zef an (a≤b)
 | .gtr=>Zef an (b<a)
 | .geq=>Zef an (b≤a)
 |_=>none
def strA (op:BinOp) (an:Ans) (a b:ByteArray):Option Out:=
 match op with
 | .add=>match an with
  | .n=>some {r:= .val (.string (a++b)),c:=some (a.size+b.size≤9223372036854775807)}
  |_=>none
 | .eql=>Zef an (a=b)
 | .neq=>Zef an (a≠b)
 | .lss=>Zef an (Zwy a b=true)
 | .gtr=>Zef an (Zwy a b=false∧a≠b)
 | .leq=>Zef an (Zwy a b=true∨a=b)
 | .geq=>Zef an (Zwy a b=false)
 |_=>none
def boolA (op:BinOp) (an:Ans) (a b:Bool):Option Out:=
 match op with
 | .eql=>Zef an (a=b)
 | .neq=>Zef an (a≠b)
 |_=>none
theorem Zro (a b:ByteArray):(a.toList==b.toList)=decide (a=b):=by
 by_cases h:a=b
 ·subst h;simp
 ·rw [decide_eq_false h,beq_eq_false_iff_ne]
  intro e
  apply h
  have e1:a.data.toList=b.data.toList:=by rw [←ByteArray.toList_eq,←ByteArray.toList_eq];exact e
  cases a;cases b
  simp at e1
  rw [e1]
structure DP where
 p:Prop
 d:Decidable p
def eqF0 (P:Program) (cs ds:List AV):List Field→Option DP
 | []=>some ⟨True,inferInstance⟩
 |f::fs=>bif decide (f.name= "_") then none else match P.underlying f.type,cs[f.offset]?,ds[f.offset]?,eqF0 P cs ds fs with
  |some (.int _),some (.val (.int k a)),some (.val (.int k' b)),some r=>bif decide (k=k') then some ⟨a=b∧r.p,@instDecidableAnd _ _ (inferInstance) r.d⟩ else none
  |some .string,some (.val (.string a)),some (.val (.string b)),some r=>some ⟨a=b∧r.p,@instDecidableAnd _ _ (inferInstance) r.d⟩
  |some .bool,some (.val (.bool a)),some (.val (.bool b)),some r=>some ⟨a=b∧r.p,@instDecidableAnd _ _ (inferInstance) r.d⟩
  |_,_,_,_=>none
def eqF (P:Program) (cs ds:List AV):List Field→Option DP
 | []=>some ⟨True,inferInstance⟩
 |f::fs=>bif decide (f.name= "_") then none else match P.underlying f.type,eqF P cs ds fs with
  |some (.struct fs2),some r=>bif P.stoodInHeld f.type then none else match Zjk P f.type,Zds P f.type with
   |some true,some n=>match eqF0 P ((cs.drop f.offset).take n) ((ds.drop f.offset).take n) fs2.toList with
    |some r2=>some ⟨r2.p∧r.p,@instDecidableAnd _ _ r2.d r.d⟩
    |none=>none
   |_,_=>none
  |some (.int _),some r=>match cs[f.offset]?,ds[f.offset]? with
   |some (.val (.int k a)),some (.val (.int k' b))=>bif decide (k=k') then some ⟨a=b∧r.p,@instDecidableAnd _ _ (inferInstance) r.d⟩ else none
   |_,_=>none
  |some .string,some r=>match cs[f.offset]?,ds[f.offset]? with
   |some (.val (.string a)),some (.val (.string b))=>some ⟨a=b∧r.p,@instDecidableAnd _ _ (inferInstance) r.d⟩
   |_,_=>none
  |some .bool,some r=>match cs[f.offset]?,ds[f.offset]? with
   |some (.val (.bool a)),some (.val (.bool b))=>some ⟨a=b∧r.p,@instDecidableAnd _ _ (inferInstance) r.d⟩
   |_,_=>none
  |_,_=>none
def aggA (P:Program) (op:BinOp) (an:Ans) (t:TypeId) (cs ds:List AV):Option Out:=match P.underlying t with
 |some (.struct fs)=>bif P.stoodInHeld t||P.eqGuardType P.depth t then none else match eqF P cs ds fs.toList with
  |some r=>match op with
   | .eql=>@Zef an r.p r.d
   | .neq=>@Zef an (¬ r.p) (@instDecidableNot _ r.d)
   |_=>none
  |none=>none
 |_=>none
theorem Zcf {P:Program} {t:TypeId} {u:TypeDesc} (hu:P.underlying t=some u) (hna:Zjk P t=some false) {xs:Array Value} {o:Nat} {v:Value} (h:xs[o]? =some v) (w:World):(part t xs o).run P w= .ok v w:=by
 unfold part
 simp [Zga hna,h]
theorem Zmj {P:Program} {t:TypeId} {u:TypeDesc} (hu:P.underlying t=some u) (h:match u with| .struct _=>False| .array _ _=>False|_=>True):Zjk P t=some false:=by
 unfold Zjk
 rw [hu]
 cases u<;>first|rfl|exact h.elim
theorem Zjy {P:Program} {κ:Nat→Value} {S:Bool→Nat→Prop} {w:World} {cs ds:List AV} {xs ys:Array Value} (hx:RelL κ w S cs xs.toList) (hy:RelL κ w S ds ys.toList) (d:Nat):∀(fs:List Field) (r:DP),eqF0 P cs ds fs=some r→
  (Op.eqFields (d+1) xs ys fs).run P w= .ok (@decide r.p r.d) w
 | [],r,h=>by
  simp only [eqF0,Option.some.injEq] at h
  subst h
  simp [Op.eqFields,Sem.run_pure]
 |f::fs,r,h=>by
  simp only [eqF0] at h
  cases hn:decide (f.name= "_") with
  |true=>simp [hn] at h
  |false=>
   have hn':f.name≠ "_" :=by simpa using hn
   simp only [hn,cond_false] at h
   have hat:∀ {l:List AV} {zs:Array Value} {u:Value},RelL κ w S l zs.toList→l[f.offset]? =some (.val u)→zs[f.offset]? =some u:=fun {l zs u} hr hl=>by
    obtain ⟨v,h1,h2⟩:=hr.at_ hl
    rw [←h2.val_of,←Array.getElem?_toList];exact h1
   split at h
   ·rename_i k0 k a k' b r' hu hc hd hr
    cases hk:decide (k=k') with
    |false=>simp [hk] at h
    |true=>
     simp only [hk,cond_true,Option.some.injEq] at h
     subst h
     have hkk:k=k':=by simpa using hk
     subst hkk
     have ih:=Zjy hx hy d fs r' hr
     have hna:=Zmj hu trivial
     rw [Op.eqFields,if_pos hn']
     simp only [Sem.run_bind,Zcf hu hna (hat hx hc),Zcf hu hna (hat hy hd),Result.andThen_ok,run_equalIn_int w d _ _ _ _ _ hu]
     by_cases e:a=b
     ·simp [e,ih]
     ·simp [e,Sem.run_pure]
   ·rename_i a b r' hu hc hd hr
    cases h
    have ih:=Zjy hx hy d fs r' hr
    have hna:=Zmj hu trivial
    rw [Op.eqFields,if_pos hn']
    simp only [Sem.run_bind,Zcf hu hna (hat hx hc),Zcf hu hna (hat hy hd),Result.andThen_ok,run_equalIn_string w d _ _ _ hu,Zro]
    by_cases e:a=b
    ·simp [e,ih]
    ·simp [e,Sem.run_pure]
   ·rename_i a b r' hu hc hd hr
    cases h
    have ih:=Zjy hx hy d fs r' hr
    have hna:=Zmj hu trivial
    rw [Op.eqFields,if_pos hn']
    simp only [Sem.run_bind,Zcf hu hna (hat hx hc),Zcf hu hna (hat hy hd),Result.andThen_ok,run_equalIn_bool' w d _ _ _ hu]
    by_cases e:a=b
    ·simp [e,ih]
    ·simp [e,Sem.run_pure]
   ·cases h
theorem Zqh {P:Program} {t:TypeId} {n:Nat} (h1:Zjk P t=some true) (h2:Zds P t=some n) (xs:Array Value) (o:Nat) (w:World):(part t xs o).run P w= .ok (.agg (xs.extract o (o+n))) w:=by
 unfold part
 simp [Zga h1,Zaz h2]
theorem RelL.sub {κ:Nat→Value} {S:Bool→Nat→Prop} {w:World} {cs:List AV} {xs:Array Value} (h:RelL κ w S cs xs.toList) (o n:Nat):RelL κ w S ((cs.drop o).take n) (xs.extract o (o+n)).toList:=by
 have e:(xs.extract o (o+n)).toList=(xs.toList.drop o).take n:=by
  rw [Array.toList_extract,List.extract_eq_take_drop]
  congr 1;omega
 rw [e]
 exact (h.drop o).take n
theorem Zku {P:Program} {κ:Nat→Value} {S:Bool→Nat→Prop} {w:World} {cs ds:List AV} {xs ys:Array Value} (hx:RelL κ w S cs xs.toList) (hy:RelL κ w S ds ys.toList) (d:Nat):∀(fs:List Field) (r:DP),eqF P cs ds fs=some r→
  (Op.eqFields (d+3) xs ys fs).run P w= .ok (@decide r.p r.d) w
 | [],r,h=>by
  simp only [eqF,Option.some.injEq] at h
  subst h
  simp [Op.eqFields,Sem.run_pure]
 |f::fs,r,h=>by
  simp only [eqF] at h
  cases hn:decide (f.name= "_") with
  |true=>simp [hn] at h
  |false=>
   have hn':f.name≠ "_" :=by simpa using hn
   simp only [hn,cond_false] at h
   have hat:∀ {l:List AV} {zs:Array Value} {u:Value},RelL κ w S l zs.toList→l[f.offset]? =some (.val u)→zs[f.offset]? =some u:=fun {l zs u} hr hl=>by
    obtain ⟨v,h1,h2⟩:=hr.at_ hl
    rw [←h2.val_of,←Array.getElem?_toList];exact h1
   split at h
   ·rename_i fs2 r' hu hr
    cases hst:P.stoodInHeld f.type with
    |true=>simp [hst] at h
    |false=>
     simp only [hst,cond_false] at h
     split at h
     ·rename_i n ha hs
      split at h
      ·rename_i r2 hr2
       cases h
       have ih:=Zku hx hy d fs r' hr
       have hf:P.underlying f.type=some (.struct (P.fieldsOf f.type)):=by unfold Program.fieldsOf;rw [hu]
       have hfs:P.fieldsOf f.type=fs2:=by unfold Program.fieldsOf;rw [hu]
       have ih2:=Zjy (hx.sub f.offset n) (hy.sub f.offset n) (d+1) fs2.toList r2 hr2
       rw [Op.eqFields,if_pos hn']
       have he:(Op.equalIn (d+3) f.type (.agg (xs.extract f.offset (f.offset+n))) (.agg (ys.extract f.offset (f.offset+n)))).run P w= .ok (@decide r2.p r2.d) w:=by
        rw [show d+3=(d+2)+1 from rfl,run_equalIn_struct w (d+2) f.type _ _ hf hst,hfs]
        exact ih2
       simp only [Sem.run_bind,Zqh ha hs,Result.andThen_ok,he]
       have:=r2.d
       by_cases e:r2.p
       ·simp [e,ih]
       ·simp [e,Sem.run_pure]
      ·cases h
     ·cases h
   ·rename_i k0 r' hu hr
    split at h
    ·rename_i k a k' b hc hd
     cases hk:decide (k=k') with
     |false=>simp [hk] at h
     |true=>
      simp only [hk,cond_true,Option.some.injEq] at h
      subst h
      have hkk:k=k':=by simpa using hk
      subst hkk
      have ih:=Zku hx hy d fs r' hr
      have hna:=Zmj hu trivial
      rw [Op.eqFields,if_pos hn']
      simp only [Sem.run_bind,Zcf hu hna (hat hx hc),Zcf hu hna (hat hy hd),Result.andThen_ok,run_equalIn_int w (d+2) _ _ _ _ _ hu]
      by_cases e:a=b
      ·simp [e,ih]
      ·simp [e,Sem.run_pure]
    ·cases h
   ·rename_i r' hu hr
    split at h
    ·rename_i a b hc hd
     cases h
     have ih:=Zku hx hy d fs r' hr
     have hna:=Zmj hu trivial
     rw [Op.eqFields,if_pos hn']
     simp only [Sem.run_bind,Zcf hu hna (hat hx hc),Zcf hu hna (hat hy hd),Result.andThen_ok,run_equalIn_string w (d+2) _ _ _ hu,Zro]
     by_cases e:a=b
     ·simp [e,ih]
     ·simp [e,Sem.run_pure]
    ·cases h
   ·rename_i r' hu hr
    split at h
    ·rename_i a b hc hd
     cases h
     have ih:=Zku hx hy d fs r' hr
     have hna:=Zmj hu trivial
     rw [Op.eqFields,if_pos hn']
     simp only [Sem.run_bind,Zcf hu hna (hat hx hc),Zcf hu hna (hat hy hd),Result.andThen_ok,run_equalIn_bool' w (d+2) _ _ _ hu]
     by_cases e:a=b
     ·simp [e,ih]
     ·simp [e,Sem.run_pure]
    ·cases h
   ·cases h
theorem run_aggA {P:Program} {op:BinOp} {an:Ans} {t:TypeId} {cs ds:List AV} {out:Out} (h:aggA P op an t cs ds=some out) (hc:out.cond) {κ:Nat→Value} {S:Bool→Nat→Prop} {w:World} {xs ys:Array Value}
  (hx:RelL κ w S cs xs.toList) (hy:RelL κ w S ds ys.toList) (X Y:Operand):out.wr=[]∧∃v,out.r= .val v∧((do eqGuard op t X Y (.agg xs) (.agg ys);binOp op t (.agg xs) (.agg ys)):Sem Value).run P w= .ok v w:=by
 unfold aggA at h
 split at h
 ·rename_i fs hu
  cases hg:P.stoodInHeld t||P.eqGuardType P.depth t with
  |true=>simp [hg] at h
  |false=>
   simp only [hg,cond_false] at h
   simp only [Bool.or_eq_false_iff] at hg
   split at h
   ·rename_i r hr
    have hf:P.underlying t=some (.struct (P.fieldsOf t)):=by unfold Program.fieldsOf;rw [hu]
    have hfs:P.fieldsOf t=fs:=by unfold Program.fieldsOf;rw [hu]
    have heq:(Op.equalIn 10000 t (.agg xs) (.agg ys)).run P w= .ok (@decide r.p r.d) w:=by
     rw [run_equalIn_struct w 9999 t xs ys hf hg.1,hfs]
     exact Zku hx hy 9996 fs.toList r hr
    split at h
    ·obtain ⟨h1,h2⟩:=@Zgb an r.p r.d out h hc
     refine ⟨h2,_,h1,?_⟩
     rw [Sem.run_bind,run_eqGuard_agg w _ _ _ _ _ _ hg.2]
     simp only [Result.andThen_ok]
     rw [run_eql_struct,heq]
     rfl
    ·obtain ⟨h1,h2⟩:=@Zgb an (¬ r.p) (@instDecidableNot _ r.d) out h hc
     refine ⟨h2,_,h1,?_⟩
     rw [Sem.run_bind,run_eqGuard_agg w _ _ _ _ _ _ hg.2]
     simp only [Result.andThen_ok]
     rw [run_neq_struct,heq]
     have:=r.d
     by_cases e:r.p<;>simp [e,Result.andThen]
    ·cases h
   ·cases h
 ·cases h
def binA (P:Program) (op:BinOp) (an:Ans) (t:TypeId) (x y:AV):Option Out:=
 match x,y with
 | .val (.int k a),.val (.int k' b)=>bif isSh op then Zwz op an k a b else if k=k' then intA op an k a b else none
 | .val (.string a),.val (.string b)=>strA op an a b
 | .val (.bool a),.val (.bool b)=>match P.underlying t with
  |some .bool=>boolA op an a b
  |_=>none
 | .sl _ _ n _,.val (.slice none _ _)=>match op,P.underlying t with
  | .eql,some (.slice _)=>some {r:= .nilq n}
  |_,_=>none
 | .agg cs,.agg ds=>aggA P op an t cs ds
 |_,_=>none
def unA (op:UnOp) (an:Ans) (x:AV):Option Out:=
 match op,x with
 | .not,.val (.bool b)=>some {r:= .val (.bool !b)}
 | .neg,.val (.int k n)=>some {r:= .val (.int k (-n)),c:=some (inR k (-n))}
 |_,_=>none
theorem run_intA {P:Program} {op:BinOp} {an:Ans} {k:IntKind} {a b:Int} {out:Out} (h:intA op an k a b=some out) (hc:out.cond) (t:TypeId) (w:World):
    out.wr=[]∧∃v,out.r= .val v∧(binOp op t (.int k a) (.int k b)).run P w= .ok v w:=by
  cases op<;>simp only [intA,reduceCtorEq] at h
  case add=>
    split at h<;>simp only [Option.some.injEq,reduceCtorEq] at h<;>subst h
    · exact ⟨rfl,_,rfl,by simp [binOp,Op.intArith,Zft hc]⟩
    · exact ⟨rfl,_,rfl,by simp [binOp,Op.intArith]⟩
  case sub=>
    split at h<;>simp only [Option.some.injEq,reduceCtorEq] at h<;>subst h
    · exact ⟨rfl,_,rfl,by simp [binOp,Op.intArith,Zft hc]⟩
    · exact ⟨rfl,_,rfl,by simp [binOp,Op.intArith]⟩
  case mul=>
    split at h<;>simp only [Option.some.injEq,reduceCtorEq] at h<;>subst h
    · exact ⟨rfl,_,rfl,by simp [binOp,Op.intArith,Zft hc]⟩
    · exact ⟨rfl,_,rfl,by simp [binOp,Op.intArith]⟩
  case and=>cases h;exact ⟨rfl,_,rfl,by simp [binOp,Op.intBits,Zck]⟩
  case or=>cases h;exact ⟨rfl,_,rfl,by simp [binOp,Op.intBits,Zck]⟩
  case xor=>cases h;exact ⟨rfl,_,rfl,by simp [binOp,Op.intBits,Zck]⟩
  case quo=>
    split at h<;>simp only [Option.some.injEq,reduceCtorEq] at h<;>subst h
    · exact ⟨rfl,_,rfl,by simp [binOp,Op.intDiv,hc.1,Zft hc.2]⟩
    · obtain ⟨h1,h2,h3,h4⟩:=hc
      have e:a.tdiv b=a/b:=Int.tdiv_eq_ediv_of_nonneg h1
      have hle:a/b≤a:=Int.ediv_le_self b h1
      have hnn:0≤a/b:=Int.ediv_nonneg h1 (by omega)
      have hin : inR k (a / b) := ⟨by have : k.min ≤ 0 := by cases k <;> decide
                                      omega,by omega⟩
      exact ⟨rfl,_,rfl,by simp [binOp,Op.intDiv,show b≠0 by omega,e,Zft hin]⟩
  case rem=>
    split at h<;>simp only [Option.some.injEq,reduceCtorEq] at h<;>subst h
    · exact ⟨rfl,_,rfl,by simp [binOp,Op.intDiv,show b≠0 from hc]⟩
    · obtain ⟨h1,h2⟩:=hc
      have e:a.tmod b=a % b:=Int.tmod_eq_emod_of_nonneg h1
      exact ⟨rfl,_,rfl,by simp [binOp,Op.intDiv,show b≠0 by omega,e]⟩
  all_goals
    obtain ⟨h1,h2⟩:=Zgb h hc
    refine ⟨h2,_,h1,?_⟩
    simp [binOp,Op.intCmp]
  all_goals
    by_cases e:a=b<;>simp [e]
theorem d_lss (x:Bool):x=decide (x=true):=by cases x<;>rfl
theorem d_geq (x:Bool):(!x)=decide (x=false):=by cases x<;>rfl
theorem d_leq (x:Bool) (p:Prop) [Decidable p]:(x||decide p)=decide (x=true∨p):=by cases x<;>by_cases h:p<;>simp [h]
theorem d_gtr (x:Bool) (p:Prop) [Decidable p]:(!(x||decide p))=decide (x=false∧¬ p):=by cases x<;>by_cases h:p<;>simp [h]
theorem run_strA {P:Program} {op:BinOp} {an:Ans} {a b:ByteArray} {out:Out} (h:strA op an a b=some out) (hc:out.cond) (t:TypeId) (w:World):
  out.wr=[]∧∃v,out.r= .val v∧(binOp op t (.string a) (.string b)).run P w= .ok v w:=by
 cases op<;>simp only [strA,reduceCtorEq] at h
 case add=>
  split at h<;>simp only [Option.some.injEq,reduceCtorEq] at h<;>subst h
  refine ⟨rfl,_,rfl,?_⟩
  have hc':a.size+b.size≤9223372036854775807:=hc
  have:¬ (IntKind.max .i64<((a.size+b.size:Nat):Int)):=by simp [IntKind.max,IntKind.signed,IntKind.bits];omega
  simp only [binOp,Op.stringOp,gt_iff_lt,this,if_false];rfl
 all_goals
  obtain ⟨h1,h2⟩:=Zgb h hc
  refine ⟨h2,_,h1,?_⟩
  simp only [binOp,Op.stringOp,Zro,Zwy]
  simp only [Sem.run_pure]
  all_goals first|done|exact congrArg (fun z=>Result.ok (Value.bool z) w) (d_lss _)|exact congrArg (fun z=>Result.ok (Value.bool z) w) (d_leq _ _)|exact congrArg (fun z=>Result.ok (Value.bool z) w) (d_gtr _ _)|exact congrArg (fun z=>Result.ok (Value.bool z) w) (d_geq _)|(congr 2;rw [Bool.eq_iff_iff];simp)
theorem Zuf {P:Program} {t:TypeId} (ht:P.underlying t=some .bool) (a b:Bool) (w:World):(Op.equal t (.bool a) (.bool b)).run P w= .ok (a==b) w:=by
 unfold Op.equal
 show (Op.equalIn (9999+1) t _ _).run P w=_
 rw [Op.equalIn]
 simp only [Sem.run_bind,run_underlying ht,Result.andThen_ok,Sem.run_pure]
theorem Zxa {P:Program} {op:BinOp} {an:Ans} {a b:Bool} {out:Out} (h:boolA op an a b=some out) (hc:out.cond) {t:TypeId} (ht:P.underlying t=some .bool) (w:World):
  out.wr=[]∧∃v,out.r= .val v∧(binOp op t (.bool a) (.bool b)).run P w= .ok v w:=by
 cases op<;>simp only [boolA,reduceCtorEq] at h
 all_goals
  obtain ⟨h1,h2⟩:=Zgb h hc
  refine ⟨h2,_,h1,?_⟩
  simp only [binOp,Sem.run_bind,Zuf ht,Result.andThen_ok,Sem.run_pure]
  cases a<;>cases b<;>rfl
theorem run_binA {P:Program} {op:BinOp} {an:Ans} {t:TypeId} {x y:AV} {out:Out} (h:binA P op an t x y=some out) (hc:out.cond) {κ:Nat→Value} {S:Bool→Nat→Prop} {w:World} {vx vy:Value}
  (hx:Rel κ w S x vx) (hy:Rel κ w S y vy) (X Y:Operand):out.wr=[]∧∃v,RelT w S out.r v∧((do eqGuard op t X Y vx vy;binOp op t vx vy):Sem Value).run P w= .ok v w:=by
 unfold binA at h
 split at h
 ·rename_i k a k' b
  obtain rfl:=hx.val_of
  obtain rfl:=hy.val_of
  cases hsh:isSh op with
  |true=>
   rw [hsh] at h
   obtain ⟨h1,v,h2,h3⟩:=Zue (P:=P) (k':=k') h hc t w
   refine ⟨h1,v,by rw [h2];exact .val v,?_⟩
   simp [eqGuard,h3]
  |false=>
  rw [hsh] at h
  simp only [cond_false] at h
  split at h
  ·rename_i e
   subst e
   obtain ⟨h1,v,h2,h3⟩:=run_intA (P:=P) h hc t w
   refine ⟨h1,v,by rw [h2];exact .val v,?_⟩
   simp [eqGuard,h3]
  ·cases h
 ·obtain rfl:=hx.val_of
  obtain rfl:=hy.val_of
  obtain ⟨h1,v,h2,h3⟩:=run_strA (P:=P) h hc t w
  exact ⟨h1,v,by rw [h2];exact .val v,by simp [eqGuard,h3]⟩
 ·obtain rfl:=hx.val_of
  obtain rfl:=hy.val_of
  split at h
  ·rename_i ht
   obtain ⟨h1,v,h2,h3⟩:=Zxa (P:=P) h hc ht w
   exact ⟨h1,v,by rw [h2];exact .val v,by simp [eqGuard,h3]⟩
  ·cases h
 ·rename_i fr sz n f c d
  obtain rfl:=hy.val_of
  split at h
  ·rename_i e ht
   cases h
   have heq:∀(A:Option Addr) (n c':Nat),(Op.equal t (.slice A n c') (.slice none c d)).run P w= .ok A.isNone w:=fun A n c'=>by
    unfold Op.equal
    show (Op.equalIn (9999+1) t _ _).run P w=_
    rw [Op.equalIn]
    cases A<;>simp [run_underlying ht]
   have hrun:∀(A:Option Addr) (n c':Nat),((do eqGuard .eql t X Y (.slice A n c') (.slice none c d);binOp .eql t (.slice A n c') (.slice none c d)):Sem Value).run P w= .ok (.bool A.isNone) w:=fun A n c'=>by
    simp [eqGuard,binOp,heq]
   have hx':RelT w S (.sl fr sz n f) vx:=by cases hx with|tree _ _ h=>exact h
   cases hx' with
   |sl _ _ _ _ b o c' g=>exact ⟨rfl,_,.nilq n _ (by simp),hrun _ _ _⟩
   |sl0 _ _ _ A c'=>exact ⟨rfl,_,.nilq 0 _ (fun _=>rfl),hrun _ _ _⟩
  ·cases h
 ·obtain ⟨xs,rfl,hxr⟩:=hx.agg_of
  obtain ⟨ys,rfl,hyr⟩:=hy.agg_of
  obtain ⟨h1,v,h2,h3⟩:=run_aggA h hc hxr hyr X Y
  exact ⟨h1,v,by rw [h2];exact .val v,h3⟩
 ·cases h
theorem run_unA {P:Program} {op:UnOp} {an:Ans} {x:AV} {out:Out} (h:unA op an x=some out) (hc:out.cond) {κ:Nat→Value} {S:Bool→Nat→Prop} {w:World} {vx:Value} (hx:Rel κ w S x vx):
  out.wr=[]∧∃v,out.r= .val v∧(Op.unary op vx).run P w= .ok v w:=by
 unfold unA at h
 split at h
 ·obtain rfl:=hx.val_of
  cases h
  exact ⟨rfl,_,rfl,rfl⟩
 ·obtain rfl:=hx.val_of
  cases h
  refine ⟨rfl,_,rfl,?_⟩
  simp [Op.unary,Op.intArith,Zft hc]
 ·cases h
end Go.Proofs.YtnlfghpgfjlblaaDoor.Ax
