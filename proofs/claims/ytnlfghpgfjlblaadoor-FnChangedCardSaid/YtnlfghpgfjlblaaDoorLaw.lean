/- The last step of a law: where the call returns true and leaves all old memory as it was, the row's post holds. No conditions. -/
import Derived.Test.YtnlfghpgfjlblaaDoorMem
import Derived.HandedShaped
namespace Go.Proofs.YtnlfghpgfjlblaaDoor
open Go.RowKit Go.ChangeShapes Go.WideShapes
theorem Tryd.own:ownKnob Tryd.prog.godebug=none:=by kernel_rfl
theorem Tryd.laidOut:laidOutB Tryd.prog=true:=by kernel_rfl
section
variable {H : Type} {enc : TypeId × Value → H} {P : Program}
theorem law_post {f:Func} {s:ChangeSpec} {bt:TypeId} (hl:laidOutB P=true) (hrt:f.resultTypes=#[bt]) (hbt:P.underlying bt=some .bool)
  (hts:∀t∈f.params.toList,P.readableRec t=true∧t<P.types.size) (hv:s.vars=[]) {W W':World} {args:Array Value} {ds gs:List (DataW H)} {before:List MemPlace}
  (hW:DataW.Whole enc P f.params.toList s.vars false W args.toList ds gs before) (hb:Below W.heap.size W W')
  (hfn:s.fn H (ds++gs)= {results:=[.lit (.bool true)],args:=ds}):s.post enc P f false true false false W args (.bool true) W':=by
 have hlt:∀x∈before,x.block<W.heap.size:=fun x hx=>hW.lt x hx
 have hW':=hW
 obtain ⟨p,q,hA,hV,rfl,_,_⟩:=hW
 rw [hv] at hV
 obtain ⟨rfl,rfl⟩:=trodVars_none hV
 refine ⟨ds,[],p++[],[],p,[],hW',?_,?_,?_,?_,fun h=>by cases h⟩
 ·rw [hfn,hrt]
  exact trodAll_mk1 (shut_bool hbt _)
 ·rw [hfn]
  exact Zih hl hb _ _ _ _ hts (fun x hx=>hlt x (by simp [hx])) hA
 ·rw [hfn,hv]
  rfl
 ·exact hb.frame _
end
end Go.Proofs.YtnlfghpgfjlblaaDoor
