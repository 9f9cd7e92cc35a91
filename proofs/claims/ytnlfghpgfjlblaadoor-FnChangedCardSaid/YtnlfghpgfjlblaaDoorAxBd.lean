/- Texts that grow: strings.Builder's functions meet what the abstract run asks of them. No conditions. -/
import Derived.Test.YtnlfghpgfjlblaaDoorAxO
import Derived.Lib.Builder
import Derived.Lib.UnsafeStr
import Derived.Lib.MakeNoZero
namespace Go.Proofs.YtnlfghpgfjlblaaDoor.Ax
open Go.RowKit Go.Lib
set_option linter.unusedVariables false
set_option linter.unusedSimpArgs false
theorem Zpg (t s:ByteArray):strCells (t++s)=strCells t++strCells s:=by simp [strCells]
theorem app_str {P:Program} {t u ty e:TypeId} {i:TypeInfo} (ht:P.underlying t=some (.slice e)) (hu:P.underlying u=some .string) (hi:P.info? e=some i) (hz:i.zero=some (.int .u8 0)) (hsize:i.size=1) (hby:i.bytes=1)
  {w:World} {r:Bool} {tx s:ByteArray} {v:Value} (h:BufAt w e r tx v) (hs:tx.size+s.size≤140737488355328):
  ∃v' w',(Builtin.append_ #[t,u] ty #[v,.string s]).run P w= .ok v' w'∧BufAt w' e r (tx++s) v'∧w'.os=w.os∧w'.tape=w.tape∧w'.output=w.output∧w.heap.size≤w'.heap.size∧
   (∀g,v'.ownBlock=some g→g<w'.heap.size∧(v.ownBlock=some g∨g=w.heap.size))∧∀k,k<w.heap.size→v'.ownBlock≠some k→w'.heap[k]? =w.heap[k]? :=by
 have hsz:(tx++s).size=tx.size+s.size:=ByteArray.size_append
 obtain ⟨v',w',hr,hown,hgr,hnil⟩:=run_append_own_string (P:=P) w 0 t u ty e i ht hu hi hz hsize hby v tx.size (strCells tx) h.1 s (by unfold maxLen;omega) hs (Nat.zero_le _)
 have hlt:=hown.lt
 have hbuf:BufAt w' e r (tx++s) v':=by
  refine ⟨by rw [hsz,Zpg];exact hown,fun hr0 h0=> ?_,fun A m hv'=> ?_⟩
  ·rw [hsz] at h0
   exact hnil.2 ⟨h.2.1 hr0 (by omega),by omega⟩
  ·subst hv'
   rcases hown.2 with ⟨h1,_⟩|⟨g1,cap1,cur1,h1,_,_,h2,_⟩
   ·cases h1
   ·cases h1
    rcases h.1.2 with ⟨hv,hn0⟩|⟨g,cap,cur,hv,_,hg,hnc,hcm,hcs,htake⟩
    ·have:=hnil.2 ⟨hv,by omega⟩
     cases this
    ·subst hv
     have hr2:=run_append_room_string (P:=P) w t u ty e i ht hu hi hsize g tx.size cap cur hg s (by omega) (by omega)
     rw [hr2] at hr
     cases hr
     exact h.2.2 _ _ rfl
 refine ⟨v',w',hr,hbuf,hgr.os,hgr.tape,hgr.output,hgr.size,?_⟩
 rcases h.1.2 with ⟨hv,hn0⟩|⟨g,cap,cur,hv,_,hg,hnc,hcm,hcs,htake⟩
 ·subst hv
  have hk:∀k,k<w.heap.size→w'.heap[k]? =w.heap[k]? :=fun k hk=>hgr.block k hk (by simp [Value.ownBlock])
  refine ⟨fun g hg=>⟨(hlt g hg).2,.inr ?_⟩,fun k hk1 _=>hk k hk1⟩
  by_cases hs0:s.size=0
  ·have:=hnil.2 ⟨rfl,hs0⟩;subst this;simp [Value.ownBlock] at hg
  ·have hr2:=run_append_nil_string (P:=P) w t u ty e i (.int .u8 0) ht hu hi hz s (by omega) (by omega) (by rw [hby];omega)
   rw [hr2] at hr
   cases hr
   simpa [Value.ownBlock] using hg.symm
 ·subst hv
  by_cases hroom:tx.size+s.size≤cap
  ·have hr2:=run_append_room_string (P:=P) w t u ty e i ht hu hi hsize g tx.size cap cur hg s hroom (by omega)
   rw [hr2] at hr
   cases hr
   refine ⟨fun q hq=>⟨(hlt q hq).2,.inl hq⟩,fun k hk1 hk2=>hgr.block k hk1 fun q=>hk2 q.symm⟩
  ·have holds:=h.1.cells (g:=g) rfl
   have hr2:=run_append_grow_string (P:=P) w t u ty e i (.int .u8 0) ht hu hi hz ⟨g,0,none⟩ tx.size cap (strCells tx) (by rw [hsize,strCells_length];omega) holds s (by omega) (by omega) (by rw [hby];exact growslice_fits (by omega) (by omega))
   rw [hr2] at hr
   cases hr
   refine ⟨fun q hq=>⟨(hlt q hq).2,.inr (by simpa [Value.ownBlock] using hq.symm)⟩,fun k hk1 _=> ?_⟩
   exact Go.heap_alloc_old w.drew _ hk1
theorem Ztr {P:Program} {w:World} {ops:Array Oper} {rest:List Oper} {o:Oper} {a:Act} {Q:Exit→Act→World→Prop} (hgd:o.guard=none) (sl x:Operand) (t u:TypeId)
  (ho:o.op= .call {callee:= .builtin .append,args:=#[sl,x],argTypes:=#[t,u]}) {e:TypeId} {i:TypeInfo} (ht:P.underlying t=some (.slice e)) (hu:P.underlying u=some .string) (hi:P.info? e=some i) (hz:i.zero=some (.int .u8 0))
  (hsize:i.size=1) (hby:i.bytes=1) {v:Value} {r:Bool} {tx s:ByteArray} (hs:a.eval sl=v) (h:BufAt w e r tx v) (hx:a.eval x= .string s) (hsz:tx.size+s.size≤140737488355328)
  (hk:∀v' w',(BufAt w' e r (tx++s) v'∧w'.os=w.os∧w'.tape=w.tape∧w'.output=w.output∧w.heap.size≤w'.heap.size∧
   (∀g,v'.ownBlock=some g→g<w'.heap.size∧(v.ownBlock=some g∨g=w.heap.size))∧∀k,k<w.heap.size→v'.ownBlock≠some k→w'.heap[k]? =w.heap[k]?)→wpList P ops Q rest (a.put o.dst v') w'):wpList P ops Q (o::rest) a w:=by
 refine wpList_plain hgd fun K hK=> ?_
 obtain ⟨v',w',hr,h2⟩:=app_str (P:=P) (ty:=o.type) ht hu hi hz hsize hby h hsz
 unfold Oper.wp execOp
 simp only [ho,resolve,invoke,builtin,Sem.run_bind,Sem.run_pure,Result.andThen_ok,List.map_toArray,List.map_cons,List.map_nil,hs,hx,hr]
 exact hK _ _ (hk v' w' h2)
set_option maxRecDepth 100000 in
theorem cc_fresh (b:Nat) (v:Value) (w:World) (hb:w.heap[b]? =some (.cells #[.pointer none,v] 63 (0,0))):
  Calls Tryd.prog 41 #[.pointer (some ⟨b,0,none⟩)] w fun e w'=>e= .returned (.tuple #[])∧w'=w.setCell ⟨b,0,none⟩ (.pointer (some ⟨b,0,none⟩)):=by
 obtain ⟨j,hj,hjs⟩:=Option.map_eq_some_iff.1 (show (Tryd.prog.info? 63).map (fun i=>i.size)=some 2 from by kernel_rfl)
 have h0:w.cell? ⟨b,0,none⟩=some (.pointer none):=by rw [Lib.cell_of_heap hb];rfl
 have hsh:w.shape? b=some (63,2):=by simp [World.shape?,hb]
 have hfz:w.frozen? ⟨b,0,none⟩=false:=Lib.frozen_of_heap hb 0
 go_enter Tryd.func41,Tryd.ntmps41
 go_wp2
 rw [Lib.run_to_unsafe w ⟨b,0,none⟩ Tryd.underlying61 Tryd.underlying90 hj (by rw [hjs];decide) hsh (Nat.zero_lt_succ 1)]
 simp only [Result.andThen]
 rw [Oper.upon_value]
 go_wp2
 rw [run_callFunc_extern Tryd.func51 (by kernel_rfl) (by kernel_rfl) (by kernel_rfl) (e:=Extern.AbiNoEscape.same) (by kernel_rfl)]
 rw [Lib.run_noEscape]
 simp only [Result.andThen]
 rw [Oper.upon_value]
 go_wp2
 rw [Lib.run_from_unsafe w ⟨b,0,none⟩ Tryd.underlying90 Tryd.underlying61 hj hsh (by kernel_rfl)]
 simp only [Result.andThen]
 rw [Oper.upon_value]
 go_wp2
 go_end0
 exact ⟨rfl,rfl⟩
set_option maxRecDepth 100000 in
theorem cc_used (b:Nat) (v:Value) (w:World) (hb:w.heap[b]? =some (.cells #[.pointer (some ⟨b,0,none⟩),v] 63 (0,0))):
  Calls Tryd.prog 41 #[.pointer (some ⟨b,0,none⟩)] w fun e w'=>e= .returned (.tuple #[])∧w'=w:=by
 obtain ⟨j,hj,hjs⟩:=Option.map_eq_some_iff.1 (show (Tryd.prog.info? 63).map (fun i=>i.size)=some 2 from by kernel_rfl)
 have h0:w.cell? ⟨b,0,none⟩=some (.pointer (some ⟨b,0,none⟩)):=by rw [Lib.cell_of_heap hb];rfl
 go_enter Tryd.func41,Tryd.ntmps41
 go_wp2
 rw [Lib.run_neq_ptr_same w _ Tryd.underlying61 hj]
 go_wp2
 go_end0
 exact ⟨rfl,rfl⟩
theorem cc_any (b:Nat) (p v:Value) (w:World) (hb:w.heap[b]? =some (.cells #[p,v] 63 (0,0))) (hp:p= .pointer none∨p= .pointer (some ⟨b,0,none⟩)):
  Calls Tryd.prog 41 #[.pointer (some ⟨b,0,none⟩)] w fun e w'=>e= .returned (.tuple #[])∧w'.heap[b]? =some (.cells #[.pointer (some ⟨b,0,none⟩),v] 63 (0,0))∧w'.os=w.os∧w'.tape=w.tape∧w'.output=w.output∧w'.heap.size=w.heap.size∧∀k,k≠b→w'.heap[k]? =w.heap[k]? :=by
 rcases hp with rfl|rfl
 ·refine (cc_fresh b v w hb).mono ?_
  rintro e w' ⟨rfl,rfl⟩
  exact ⟨rfl,by simp [World.setCell,Array.getElem?_modify,hb],rfl,rfl,rfl,by simp [World.setCell],fun k hk=>Below.heap_setCell _ _ _ _ hk⟩
 ·refine (cc_used b v w hb).mono ?_
  rintro e w' ⟨rfl,rfl⟩
  exact ⟨rfl,hb,rfl,rfl,rfl,rfl,fun _ _=>rfl⟩
set_option maxHeartbeats 2000000 in
set_option maxRecDepth 100000 in
theorem Zmx {r:Bool} {t s:ByteArray} (hsz:t.size+s.size≤140737488355328):Zuu Tryd.prog 26 63 5 (.string s) r t r s:=by
 intro b p v w hb hp hbuf hne
 obtain ⟨i0,hi,hz0,hz1,hz2⟩:∃i0,Tryd.prog.info? 5=some i0∧i0.zero=some (.int .u8 0)∧i0.size=1∧i0.bytes=1:=by
  obtain ⟨j,hj,hjs⟩:=Option.map_eq_some_iff.1 (show (Tryd.prog.info? 5).map (fun i=>(i.zero,i.size,i.bytes))=some (some (.int .u8 0),1,1) from by kernel_rfl)
  simp only [Prod.mk.injEq] at hjs
  exact ⟨j,hj,hjs⟩
 go_enter Tryd.func26,Tryd.ntmps26
 go_wp2_with (go_at_call 41;refine (cc_any b p v _ hb hp).mono ?_)
 rintro e w1 ⟨rfl,h1,h2,h3,h4,h5,h6⟩
 have hbk:blk v=v.ownBlock:=Zer hbuf
 have hbuf1:BufAt w1 5 r t v:=hbuf.keep fun k hk=>h6 k fun q=>hne (by rw [←hbk,hk,q])
 have c0:w1.cell? ⟨b,0,none⟩=some (.pointer (some ⟨b,0,none⟩)):=by rw [Lib.cell_of_heap h1];rfl
 have c1:w1.cell? ⟨b,1,none⟩=some v:=by rw [Lib.cell_of_heap h1];rfl
 go_wp2_with (at_builtin;refine Ztr rfl _ _ 22 9 rfl Tryd.underlying22 Tryd.underlying9 hi hz0 hz1 hz2 rfl hbuf1 (s:=s) rfl hsz ?_)
 intro v' w2 r1 r2 r3 r4 r5 r6 r7
 have hlt:b<w1.heap.size:=(Array.getElem?_eq_some_iff.1 h1).1
 have hne':v'.ownBlock≠some b:=fun q=>by
  rcases (r6 b q).2 with q2|q2
  ·exact hne q2
  ·omega
 have hb2:w2.heap[b]? =some (.cells #[.pointer (some ⟨b,0,none⟩),v] 63 (0,0)):=by rw [r7 b (by omega) hne'];exact h1
 have d0:w2.cell? ⟨b,0,none⟩=some (.pointer (some ⟨b,0,none⟩)):=by rw [Lib.cell_of_heap hb2];rfl
 have d1:w2.cell? ⟨b,1,none⟩=some v:=by rw [Lib.cell_of_heap hb2];rfl
 have f1:w2.frozen? ⟨b,1,none⟩=false:=Lib.frozen_of_heap hb2 1
 have hbk':blk v'=v'.ownBlock:=Zer r1
 obtain ⟨ao,n',cap,rfl⟩:∃ao n' cap,v'= .slice ao n' cap:=by
  rcases r1.1.2 with ⟨hv,_⟩|⟨g,cap,cur,hv,_⟩
  ·exact ⟨_,_,_,hv⟩
  ·exact ⟨_,_,_,hv⟩
 go_wp2
 go_ret2
 refine ⟨_,.slice ao n' cap,rfl,?_,?_,?_,?_,?_,?_,?_,?_⟩
 ·simp [World.setCell,Array.getElem?_modify,hb2]
 ·exact r1.keep fun k hk=>Below.heap_setCell _ _ _ _ fun q=>hne' (by rw [←hbk',hk,q])
 ·intro g hg
  have:=r6 g hg
  refine ⟨fun q=>hne' (by rw [hg,q]),by simp [World.setCell];exact this.1,?_⟩
  rcases this.2 with q|q
  ·exact .inl q
  ·exact .inr (by omega)
 ·exact r2
 ·exact r3
 ·exact r4
 ·simp [World.setCell];omega
 ·intro k hk hkb hkv
  rw [show (w2.setCell ⟨b,1,none⟩ _).heap[k]? =w2.heap[k]? from Below.heap_setCell _ _ _ _ hkb,r7 k hk hkv]
  exact h6 k hkb
theorem Zph (w:World) (g n:Nat) (h:n≠0):(w.freeze ⟨g,0,none⟩ n).os=w.os∧(w.freeze ⟨g,0,none⟩ n).tape=w.tape∧(w.freeze ⟨g,0,none⟩ n).output=w.output∧(w.freeze ⟨g,0,none⟩ n).heap.size=w.heap.size∧∀k,k≠g→(w.freeze ⟨g,0,none⟩ n).heap[k]? =w.heap[k]? :=by
 unfold World.freeze
 rw [if_neg h]
 exact ⟨rfl,rfl,rfl,by simp,fun k hk=>by simp [Array.getElem?_modify,Ne.symm hk]⟩
set_option maxHeartbeats 2000000 in
set_option maxRecDepth 100000 in
theorem bs_ok:BsOK Tryd.prog 33 63 5:=by
 intro b p v r t w hb hbuf hne
 rcases hbuf.1.2 with ⟨hv,ht0⟩|⟨g,cap,cur,hv,_,hg,hnc,hcm,hcs,htake⟩
 ·subst hv
  have ht:t=⟨#[]⟩:=by
   apply ByteArray.ext
   exact Array.eq_empty_of_size_eq_zero ht0
  subst ht
  have c1:w.drew.cell? ⟨b,1,none⟩=some (.slice none 0 0):=by
   have:w.drew.heap[b]? =some (.cells #[p,.slice none 0 0] 63 (0,0)):=hb
   rw [Lib.cell_of_heap this];rfl
  have hSD:(Builtin.unsafeSliceData_ #[22] 84 #[.slice none 0 0]).run Tryd.prog w.drew= .ok (.pointer none) w.drew:=Lib.run_unsafeSliceData_nil _ _ _ _ _
  have hUS:(Builtin.unsafeString_ #[84,3] 9 #[.pointer none,.int .i64 0]).run Tryd.prog w.drew= .ok (.string .empty) w.drew:=Lib.run_unsafeString_none _ _ _ _ _
  go_enter Tryd.func33,Tryd.ntmps33
  go_wp2
  go_region
  all_goals (go_wp2;go_ret;exact ⟨rfl,rfl,rfl,rfl,rfl,fun _ _=>rfl⟩)
 ·subst hv
  have hc0:cap≠0:=fun q=>by subst q;exact hbuf.2.2 _ _ rfl
  by_cases h0:t.size=0
  ·have ht:t=⟨#[]⟩:=by
    apply ByteArray.ext
    exact Array.eq_empty_of_size_eq_zero h0
   subst ht
   have c1:w.drew.cell? ⟨b,1,none⟩=some (.slice (some ⟨g,0,none⟩) 0 cap):=by
    have:w.drew.heap[b]? =some (.cells #[p,.slice (some ⟨g,0,none⟩) 0 cap] 63 (0,0)):=hb
    rw [Lib.cell_of_heap this];rfl
   have hSD:(Builtin.unsafeSliceData_ #[22] 84 #[.slice (some ⟨g,0,none⟩) 0 cap]).run Tryd.prog w.drew= .ok (.pointer (some ⟨g,0,none⟩)) w.drew:=Lib.run_unsafeSliceData_row _ _ _ _ _ _ hc0
   have hUS:(Builtin.unsafeString_ #[84,3] 9 #[.pointer (some ⟨g,0,none⟩),.int .i64 0]).run Tryd.prog w.drew= .ok (.string .empty) w.drew:=Lib.run_unsafeString_none _ _ _ _ _
   go_enter Tryd.func33,Tryd.ntmps33
   go_wp2
   go_region
   all_goals (go_wp2;go_ret;exact ⟨rfl,rfl,rfl,rfl,rfl,fun _ _=>rfl⟩)
  have hl:t.data.toList.length=t.size:=by rw [Array.length_toList];rfl
  have c1:w.drew.cell? ⟨b,1,none⟩=some (.slice (some ⟨g,0,none⟩) t.size cap):=by
   have:w.drew.heap[b]? =some (.cells #[p,.slice (some ⟨g,0,none⟩) t.size cap] 63 (0,0)):=hb
   rw [Lib.cell_of_heap this];rfl
  have hSD:(Builtin.unsafeSliceData_ #[22] 84 #[.slice (some ⟨g,0,none⟩) t.size cap]).run Tryd.prog w.drew= .ok (.pointer (some ⟨g,0,none⟩)) w.drew:=Lib.run_unsafeSliceData_row _ _ _ _ _ _ hc0
  have hUS:(Builtin.unsafeString_ #[84,3] 9 #[.pointer (some ⟨g,0,none⟩),.int .i64 t.size]).run Tryd.prog w.drew= .ok (.string t) (w.drew.freeze ⟨g,0,none⟩ t.size):=by
   have h:=Lib.run_unsafeString_row w.drew 84 3 9 5 Tryd.underlying84 (by kernel_rfl) g cur.size (by have hg':w.drew.heap[g]? =some (.cells cur 5 (0,0)):=hg;simp [World.shape?,hg']) t.data.toList (fun q=>h0 (by rw [←hl,q];rfl)) (by rw [hl];omega) (by rw [hl];unfold maxLen at hcm;omega)
    (fun j x hx=>hbuf.1.cells (g:=g) rfl j (.int .u8 x.toNat) (by simp [Lib.strCells,hx]))
   rw [hl] at h
   exact h
  have hfr:=Zph w.drew g t.size h0
  go_enter Tryd.func33,Tryd.ntmps33
  go_wp2
  go_region
  all_goals (go_wp2;go_ret;exact ⟨rfl,hfr.1,hfr.2.1,hfr.2.2.1,hfr.2.2.2.1,fun k hk=>hfr.2.2.2.2 k fun q=>hk (by rw [q];rfl)⟩)
end Go.Proofs.YtnlfghpgfjlblaaDoor.Ax
