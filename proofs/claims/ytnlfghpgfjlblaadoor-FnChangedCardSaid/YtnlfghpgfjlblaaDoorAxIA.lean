/- The abstract run: bytes to strings, and back. Plain lemmas on the model. No conditions. -/
import Derived.Test.YtnlfghpgfjlblaaDoorAxH
import Derived.Lib.ConvBytes
import Derived.Laws.BytesString
namespace Go.Proofs.YtnlfghpgfjlblaaDoor.Ax
open Go.RowKit
set_option linter.unusedVariables false
set_option linter.unusedSimpArgs false
def bytT (ob:Nat→Option Ob):AV→Option ByteArray
 | .arr i=>match ob i with
  |some (.byt t)=>some t
  |_=>none
 |_=>none
def Zwn (P:Program) (src dst:TypeId) (an:Ans) (ob:Nat→Option Ob) (x:AV):Option Out:=
 match P.underlying src,P.underlying dst with
 |some .string,some (.slice e)=>match P.underlying e,x with
  |some (.int .u8),.val (.string s)=>match an with
   | .new i=>some {r:= .arr i,wr:=[(i,some (.byt s))],c:=some (s.size≤140737488355328∧0<s.size)}
   |_=>some {r:= .sl true 1 s.size (Zfi s),c:=some (s.size≤140737488355328)}
  |_,_=>none
 |some (.slice e),some .string=>match P.underlying e,an,Zuw ob 1 x with
  |some (.int .u8),.as (.val (.string s)),some (n,f)=>some {r:= .val (.string s),c:=some (s.size=n∧∀i,i<n→f i=Zfi s i)}
  |some (.int .u8),_,none=>match bytT ob x with
   |some s=>some {r:= .val (.string s)}
   |none=>none
  |_,_,_=>none
 |_,_=>none
theorem Zwr (l:List UInt8):∀s:ByteArray,l.foldl (fun r n=>r.push n) s=⟨s.data++l.toArray⟩:=by
 induction l with
 |nil=>intro s;simp
 |cons x l ih=>
  intro s
  rw [List.foldl_cons,ih]
  congr 1
  simp [ByteArray.push]
theorem Zmh (s:ByteArray):((s.data.toList.map fun b=>(b.toNat:Int)).foldl (fun r n=>r.push (UInt8.ofNat n.toNat)) ByteArray.empty)=s:=by
 rw [List.foldl_map]
 have:(fun (r:ByteArray) (b:UInt8)=>r.push (UInt8.ofNat ((b.toNat:Int)).toNat))=fun r b=>r.push b:=by
  funext r b;simp
 rw [this,Zwr]
 cases s
 simp [ByteArray.empty,ByteArray.emptyWithCapacity]
 all_goals rfl
theorem Ztx {P:Program} {src dst:TypeId} {an:Ans} {x:AV} {out:Out} {B:Base} {κ:Nat→Value} {ob obr:Nat→Option Ob} {w:World} {vx:Value} (hm:MS B κ ob w) (hsub:∀i o,obr i=some o→ob i=some o)
  (hx:Rel κ w (SS B κ ob w) x vx) (h:Zwn P src dst an obr x=some out) (hc:out.cond) (hn:∀i∈an.news,Zes B ob i):∃v w',(convert src dst vx).run P w= .ok v w'∧Good B κ ob w an.news out v w':=by
 unfold Zwn at h
 split at h
 ·rename_i d e h1 h2
  split at h
  ·rename_i s h3
   split at h
   ·rename_i i
    cases h
    obtain rfl:=hx.val_of
    obtain ⟨hs,hs0⟩:s.size≤140737488355328∧0<s.size:=hc
    have hni:=hn i (by simp [Ans.news])
    refine ⟨_,_,Lib.run_convert_string_bytes w src dst e s h1 h2 h3,?_⟩
    have hc1:=grownCap_ge w s.size 0 e
    have hc2:=grownCap_le_maxLen w s.size 0 e (by unfold maxLen;omega)
    have hcs:(Lib.bytesCells w e s).size=grownCap w s.size 0 e:=by
     unfold Lib.bytesCells
     rw [Array.size_append,Array.size_map,Array.size_replicate]
     show s.size+_=_
     omega
    have hp:=MS.put (ob':=Zce ob [(i,some (.byt s))]) (w':=Lib.bytesWorld w e s) hm i (.byt s) (.slice (some ⟨w.heap.size,0,none⟩) s.size (grownCap w s.size 0 e)) (by simp [Zaw]) (fun j hj _=>by simp [Zaw,hj]) (fun h=>absurd h (by rw [hni.1];simp))
     (fun b hb=>by
      simp [Zbx,blk] at hb
      have hb2:b=w.heap.size:=hb.2.symm
      exact ⟨.inl hb2,by rw [hb2,Lib.bytesWorld_size];omega⟩) rfl rfl rfl (by rw [Lib.bytesWorld_size];omega) (fun b hb _=>Lib.bytesWorld_at_old w e s b hb)
     (fun _ j oj hj ho=>hni.2.2 j oj (by simpa [Zaw,hj] using ho)) (fun h=>by rw [hni.2.1] at h;cases h)
     (fun hfr=>⟨w.heap.size,Lib.bytesCells w e s,e,grownCap w s.size 0 e,rfl,by omega,Lib.bytesWorld_at_new w e s,hc1,by rw [hcs];exact Nat.le_refl _,hc2,fun q hq=>by
      have h9:=Lib.bytesWorld_cell w e s q hq
      rw [cell_of_row _ _ _ _ _ _ (Lib.bytesWorld_at_new w e s)] at h9
      exact h9⟩)
    exact ⟨_,fun k hk=>Zbi _ _ (by simpa [Ans.news] using hk),hp.1,.arr i _ _ _ (Zav _ _ _),hp.2⟩
   ·cases h
    obtain rfl:=hx.val_of
    have hs:s.size≤140737488355328:=hc
    refine ⟨_,_,Lib.run_convert_string_bytes w src dst e s h1 h2 h3,κ,fun _ _=>rfl,?_⟩
    have hk:Kept w (fun _=>False) (Lib.bytesWorld w e s):=⟨rfl,rfl,rfl,by rw [Lib.bytesWorld_size];omega,fun k hk _=>Lib.bytesWorld_at_old w e s k hk⟩
    refine ⟨hm.world hk,.tree _ _ ?_,SS.world hk⟩
    refine .sl true 1 s.size _ w.heap.size 0 (grownCap w s.size 0 e) (fun i _=> .int .u8 (bAt s i)) ⟨by rw [Lib.bytesWorld_size];omega,⟨fun _=> .inl hm.kept.size,fun hlt=> ?_⟩,fun i hi hb=> ?_⟩ (grownCap_ge w s.size 0 e) (grownCap_le_maxLen w s.size 0 e (by unfold maxLen;omega)) (fun i _=>rfl) (fun i j hi hj=>⟨?_,rfl⟩) (fun i j u hi hu=> ?_)
    ·exact absurd (.inl hm.kept.size) hlt
    ·have:=(hm.ownb i _ hi hb).1;omega
    ·have:j=0:=by omega
     subst this
     have:=Lib.bytesWorld_cell w e s i hi
     simpa [bAt] using this
    ·cases j with
     |zero=>simp [Zfi] at hu;subst hu;exact .val _
     |succ j=>simp [Zfi] at hu
  ·cases h
 ·rename_i d e h1 h2
  split at h
  ·rename_i s n f h3 h5
   cases h
   obtain ⟨hn,hf⟩:=hc
   obtain ⟨A,c,nws,rfl,⟨hfl,hcells⟩,_,hrun⟩:=Znt (P:=P) hm hsub hx (by decide) h5
   refine ⟨.string s,w,?_,Good.pure hm _ (Rel.of_val _)⟩
   rw [run_convert_bytes_string w src dst e A n c h1 h3 h2]
   have hnews:nws=(s.data.toList.map fun b=>(b.toNat:Int)).map (Value.int .u8):=by
    apply List.ext_getElem
    ·rw [hfl,List.length_map,List.length_map,Array.length_toList,Nat.mul_one];exact hn.symm
    ·intro i hi1 hi2
     have hil:i<n:=by rw [hfl] at hi1;omega
     have hb:=(hcells i hil).2 0 (.val (.int .u8 (bAt s i))) (by rw [hf i hil];rfl)
     obtain ⟨y,hy,_,hr⟩:=hb
     cases hr
     rw [Nat.mul_one,Nat.add_zero,List.getElem?_eq_getElem hi1] at hy
     rw [Option.some.inj hy]
     have hsz:i<s.data.toList.length:=by rw [Array.length_toList];show i<s.size;omega
     simp only [List.getElem_map,bAt,List.getD_eq_getElem?_getD,List.getElem?_eq_getElem hsz,Option.getD_some]
   cases A with
   |none=>
    have h0:=hrun w rfl
    have hn0:n=0:=by
     by_cases e0:n=0
     ·exact e0
     ·cases hx with
      |tree _ _ hx=>
       cases hx with
       |any=>cases h5
       |sl0=>rfl
       |e0=>rfl
       |val=>
        cases n with
        |zero=>rfl
        |succ n=>cases h5
      |arr j A' n' c' hκ=>
       simp only [Zuw] at h5
       split at h5
       ·rename_i sz' n2 f2 hoj
        cases hb:Nat.beq 1 sz' with
        |false=>simp [hb] at h5
        |true=>
         simp only [hb,cond_true,Option.some.injEq,Prod.mk.injEq] at h5
         obtain ⟨rfl,rfl⟩:=h5
         have hobj:=hm.obj j _ (hsub j _ hoj)
         rw [hκ] at hobj
         rcases hobj with ⟨e0',A',e1⟩|⟨b,cur,e',c,e1,_⟩
         ·exact e0'
         ·cases e1
       ·cases h5
      |row j p vs A' n' c' hκ hvs=>simp [Zuw] at h5
    have:s= .empty:=by
     rw [hn0] at hn
     cases s with|mk d=>simp [ByteArray.size] at hn;subst hn;rfl
    subst this
    simp [Conv.bytesToString]
   |some a=>
    have h0:=hrun w rfl
    have h0':(loadCells a n).run P w= .ok nws.toArray w:=by simpa [Builtin.firstCells] using h0
    rw [hnews] at h0'
    rw [run_bytesToString w a n c _ h0',Zmh]
  ·rename_i _ h3 _
   split at h
   ·rename_i s hbt
    cases h
    unfold bytT at hbt
    split at hbt
    ·rename_i i _
     split at hbt
     ·rename_i t hoi
      cases hbt
      cases hx with
      |tree _ _ h=>cases h
      |arr _ A n' c' hκ=>
       have hobj:=hm.obj i _ (hsub i _ hoi)
       rw [hκ] at hobj
       obtain ⟨b,cur,e',c,e1,g0,g1,g2,g3,g4,g5⟩:=hobj
       cases e1
       refine ⟨.string s,w,?_,Good.pure hm _ (Rel.of_val _)⟩
       rw [run_convert_bytes_string w src dst e _ _ _ h1 h3 h2]
       have hl:=run_loadCells_list (P:=P) w ⟨b,0,none⟩ ((s.data.toList.map fun b=>(b.toNat:Int)).map (Value.int .u8)) (fun q v hq=>by
        rw [List.map_map,List.getElem?_map] at hq
        have hqs:q<s.data.toList.length:=by
         refine Classical.byContradiction fun hno=> ?_
         rw [List.getElem?_eq_none (by omega)] at hq
         cases hq
        rw [List.getElem?_eq_getElem hqs] at hq
        have h9:=g5 q (by rw [Array.length_toList] at hqs;exact hqs)
        rw [Zdj,cell_of_row w b _ cur e' _ g1,Nat.zero_add,h9]
        simp only [bAt,List.getD_eq_getElem?_getD,List.getElem?_eq_getElem hqs,Option.getD_some]
        simpa using hq)
       have hlen:((s.data.toList.map fun b=>(b.toNat:Int)).map (Value.int .u8)).length=s.size:=by rw [List.length_map,List.length_map,Array.length_toList];rfl
       rw [hlen] at hl
       rw [run_bytesToString w ⟨b,0,none⟩ s.size c' _ hl,Zmh]
     ·cases hbt
    ·cases hbt
   ·cases h
  ·cases h
 ·cases h
end Go.Proofs.YtnlfghpgfjlblaaDoor.Ax
