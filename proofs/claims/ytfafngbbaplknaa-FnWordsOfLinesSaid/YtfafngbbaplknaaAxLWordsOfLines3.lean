/- Contracts that the statement FnWordsOfLines reaches, part 3. No conditions. -/
import Derived.Test.YtfafngbbaplknaaAxLWordsOfLines2
import Derived.Test.YtfafngbbaplknaaAxR
import Derived.Test.YtfafngbbaplknaaAxRS
import Derived.Test.YtfafngbbaplknaaAxS
import Derived.Test.YtfafngbbaplknaaAxY
namespace Go.Proofs.Ytfafngbbaplknaa.Ax
open Go.RowKit Go.ChangeShapes Go.WideShapes
set_option linter.unusedVariables false
set_option linter.unusedSimpArgs false
theorem Zre (data:List Int) (a:Int) (b:Int) (boxes:List Box) (hb:0≤a∧a≤b∧b≤(data.length:Int)) (hl:data.length≤1000) (hsd:Zml (cY boxes) data) (hcl:∀x∈data,0≤x∧x<(boxes.length:Int)):Con Try.prog 84 [slI false data,I a,I b,.fn 64 [.ptr false [Zae false boxes]]] true (.tup []):=by
  refine Zda (fn:=Try.f84) (nt:=53) Try.func84 rfl rfl rfl rfl (by simp [Zag,Zah,Zbo,Zft]) fun B hB=> ?_
  refine Zbt (x:=slI false data) 0 rfl (fun len_data=> ?_)
  simp [Zdb,Zfv,cI,fI,slI] at len_data
  refine aR [] [0,1,2,3,8] [] [slI false data,I a,I b,.fn 64 [.ptr false [Zae false boxes]],I (a+1)] [] [inR .i64 (a+1)] hB ⟨(Zaf om om),trivial⟩ (Zar ?_)
  refine Zcg (fun gn gσ=>∃(i:Int),gn=(b-i).toNat∧(a+1≤i∧(i≤b∨i=a+1))∧gσ=mkS [(0,slI false data),(1,I a),(2,I b),(3,.fn 64 [.ptr false [Zae false boxes]]),(8,I i)] []) ((b-(a+1)).toNat) ⟨(a+1),rfl,om,rfl⟩ (fun gn gσ hI=> ?_)
  obtain ⟨i,rfl,hi0,rfl⟩:=hI
  refine Zai (Zai ?_)
  by_cases h1:i<b
  ·refine Zbz [(2,.dec true)] [0,1,2,3,8,14] [] [_] hB ⟨h1,trivial⟩ (Zad (Zcf (Zaq (Zad (Zai (Zar ?_))))))
   refine aR [] [0,1,2,3,8,9] [] [slI false data,I a,I b,.fn 64 [.ptr false [Zae false boxes]],I i,I i] [] [] hB trivial (Zar ?_)
   refine Zcg (fun gn gσ=>∃(j:Int),gn=(0:Nat)∧(j=i)∧gσ=mkS [(0,slI false data),(1,I a),(2,I b),(3,.fn 64 [.ptr false [Zae false boxes]]),(8,I i),(9,I j)] []) ((0:Nat)) ⟨i,rfl,(by first|rfl|omega),rfl⟩ (fun gn gσ hI=> ?_)
   obtain ⟨j,rfl,hj0,rfl⟩:=hI
   refine Zai ?_
   refine aQ [(2,.dec true),(14,.call [(true,.any),(true,.any),(true,.any)] true (I (cY boxes (at_ data j.toNat) (at_ data ((j-1).toNat))))),(15,.dec false)] [0,1,2,3,8,9,34] [] [a<j,(0:Int)≤j∧j<(data.length:Int),inR .i64 (j-1),(0:Int)≤(j-1)∧(j-1)<(data.length:Int),_∧True,¬ ((cY boxes (at_ data j.toNat) (at_ data ((j-1).toNat)))<0)] hB ⟨om,⟨om,om⟩,(Zaf om om),⟨om,om⟩,⟨(Zcs (at_ data j.toNat) (at_ data ((j-1).toNat)) boxes (by first|omega|exact hcl _ (Zbj om)) (by first|omega|exact hcl _ (Zbj om))),trivial⟩,(Zlv hsd om om),trivial⟩ (Zbw (Zcl (Zaj (Zaj (Zav (Zbq 1 (Zad ?_)))))))
   refine Zei [] [0,1,2,3,8] [] [slI false data,I a,I b,.fn 64 [.ptr false [Zae false boxes]],I (i+1)] [] [inR .i64 (i+1)] hB ⟨(Zaf om om),trivial⟩ ?_
   exact Zbr _ om ⟨(i+1),rfl,om,rfl⟩
  refine Zei [(2,.dec false)] [0,1,2,3,8,14] [] [slI false data,I a,I b,.fn 64 [.ptr false [Zae false boxes]],I i,Bv false] [] [_] hB ⟨h1,trivial⟩ (Zad (Zds rfl (Zcl (Zaj (Zaj (Zav ?_))))))
  refine Zax hB (.tup []) (by kernel_rfl) (.inl rfl) rfl (fun _=>(by simp [Zah,Zag]))
theorem Zsr (data:List Int) (a:Int) (m:Int) (b:Int) (boxes:List Box) (N:Nat) (ih:∀(data:List Int) (a m b:Int) (boxes:List Box),(b-a).toNat<N→0≤a∧a<m∧m<b∧b≤(data.length:Int)→data.length≤1000→Zml (cY boxes) data→(∀x∈data,0≤x∧x<(boxes.length:Int))→Con Try.prog 85 [slI false data,I a,I m,I b,.fn 64 [.ptr false [Zae false boxes]]] true (.tup [])) (hN:(b-a).toNat≤N) (hb:0≤a∧a<m∧m<b∧b≤(data.length:Int)) (hl:data.length≤1000) (hsd:Zml (cY boxes) data) (hcl:∀x∈data,0≤x∧x<(boxes.length:Int)):Con Try.prog 85 [slI false data,I a,I m,I b,.fn 64 [.ptr false [Zae false boxes]]] true (.tup []):=by
  refine Zda (fn:=Try.f85) (nt:=220) Try.func85 rfl rfl rfl rfl (by simp [Zag,Zah,Zbo,Zft]) fun B hB=> ?_
  refine Zbt (x:=slI false data) 0 rfl (fun len_data=> ?_)
  simp [Zdb,Zfv,cI,fI,slI] at len_data
  refine Zai (Zai ?_)
  by_cases h1:(m-a)=1
  ·refine Zbz [(3,.dec true)] [0,1,2,3,4,28] [] [inR .i64 (m-a),_] hB ⟨(Zaf om om),h1,trivial⟩ (Zad (Zcf ?_))
   refine aQ [] [0,1,3,4,10] [] [] hB trivial ?_
   refine aR [] [0,1,4,10,11] [] [slI false data,I a,.fn 64 [.ptr false [Zae false boxes]],I m,I b] [] [] hB trivial (Zai (Zar ?_))
   refine Zcg (fun gn gσ=>∃(i:Int) (j:Int),gn=(j-i).toNat∧(i=m∧m≤j∧j≤b)∧gσ=mkS [(0,slI false data),(1,I a),(4,.fn 64 [.ptr false [Zae false boxes]]),(10,I i),(11,I j)] []) ((b-m).toNat) ⟨m,b,rfl,om,rfl⟩ (fun gn gσ hI=> ?_)
   obtain ⟨i,j,rfl,hi0,rfl⟩:=hI
   refine Zai (Zai ?_)
   by_cases h2:i<j
   ·refine Zbz [(2,.dec true)] [0,1,4,10,11,33] [] [_] hB ⟨h2,trivial⟩ (Zad (Zcf (Zaq (Zad (Zar ?_)))))
    refine aQ [] [0,1,4,10,11,12] [] [inR .i64 (i+j),inR .u64 (i+j),(0:Int)≤1∧(1:Int)≤((IntKind.bits .u64:Nat):Int),inR .i64 ((i+j)/2)] hB ⟨(Zaf om om),(Zfr om om),⟨(by decide),(by decide)⟩,(Zaf om om),trivial⟩ ?_
    refine aQ [(9,.call [(true,.any),(true,.any),(true,.any)] true (I (cY boxes (at_ data (((i+j)/2).toNat)) (at_ data a.toNat)))),(10,.dec false)] [0,1,4,10,11,12,50] [] [(0:Int)≤((i+j)/2)∧((i+j)/2)<(data.length:Int),(0:Int)≤a∧a<(data.length:Int),_∧True,¬ ((cY boxes (at_ data (((i+j)/2).toNat)) (at_ data a.toNat))<0)] hB ⟨⟨om,om⟩,⟨om,om⟩,⟨(Zcs (at_ data (((i+j)/2).toNat)) (at_ data a.toNat) boxes (by first|omega|exact hcl _ (Zbj om)) (by first|omega|exact hcl _ (Zbj om))),trivial⟩,(Zlv hsd om om),trivial⟩ (Zbw ?_)
    refine Zei [] [0,1,4,10,11] [] [slI false data,I a,.fn 64 [.ptr false [Zae false boxes]],I i,I ((i+j)/2)] [] [] hB trivial (Zbq 1 ?_)
    exact Zbr _ om ⟨i,((i+j)/2),rfl,om,rfl⟩
   refine Zbz [(2,.dec false)] [0,1,4,10,11,33] [] [_] hB ⟨h2,trivial⟩ (Zad (Zbw (Zcl (Zaj (Zaj (Zav (Zad (Zai ?_))))))))
   refine aR [] [0,10,13] [] [slI false data,I i,I a] [] [] hB trivial (Zar ?_)
   refine Zcg (fun gn gσ=>∃(k:Int),gn=(0:Nat)∧(k=a)∧gσ=mkS [(0,slI false data),(10,I i),(13,I k)] []) ((0:Nat)) ⟨a,rfl,(by first|rfl|omega),rfl⟩ (fun gn gσ hI=> ?_)
   obtain ⟨k,rfl,hk0,rfl⟩:=hI
   refine Zai ?_
   refine aR [(3,.dec false)] [0,10,13,58] [] [slI false data,I i,I k,Bv false] [] [inR .i64 (i-1),¬ (k<(i-1))] hB ⟨(Zaf om om),om,trivial⟩ (Zds rfl (Zcl (Zaj (Zaj (Zav (Zad (Zaz (Zal ?_))))))))
   refine Zax hB (.tup []) (by kernel_rfl) (.inl rfl) rfl (fun _=>(by simp [Zah,Zag]))
  refine Zbz [(3,.dec false)] [0,1,2,3,4,28] [] [inR .i64 (m-a),_] hB ⟨(Zaf om om),h1,trivial⟩ (Zad (Zbw (Zaq (Zad (Zai (Zai ?_))))))
  by_cases h3:(b-m)=1
  ·refine Zbz [(3,.dec true)] [0,1,2,3,4,80] [] [inR .i64 (b-m),_] hB ⟨(Zaf om om),h3,trivial⟩ (Zad (Zcf ?_))
   refine aQ [] [0,2,4,14] [] [] hB trivial ?_
   refine aR [] [0,2,4,14,15] [] [slI false data,I m,.fn 64 [.ptr false [Zae false boxes]],I a,I m] [] [] hB trivial (Zai (Zar ?_))
   refine Zcg (fun gn gσ=>∃(i:Int) (j:Int),gn=(j-i).toNat∧(a≤i∧i≤m∧j=m)∧gσ=mkS [(0,slI false data),(2,I m),(4,.fn 64 [.ptr false [Zae false boxes]]),(14,I i),(15,I j)] []) ((m-a).toNat) ⟨a,m,rfl,om,rfl⟩ (fun gn gσ hI=> ?_)
   obtain ⟨i,j,rfl,hi0,rfl⟩:=hI
   refine Zai (Zai ?_)
   by_cases h4:i<j
   ·refine Zbz [(2,.dec true)] [0,2,4,14,15,85] [] [_] hB ⟨h4,trivial⟩ (Zad (Zcf (Zaq (Zad (Zar ?_)))))
    refine aQ [] [0,2,4,14,15,16] [] [inR .i64 (i+j),inR .u64 (i+j),(0:Int)≤1∧(1:Int)≤((IntKind.bits .u64:Nat):Int),inR .i64 ((i+j)/2)] hB ⟨(Zaf om om),(Zfr om om),⟨(by decide),(by decide)⟩,(Zaf om om),trivial⟩ ?_
    refine aQ [(9,.call [(true,.any),(true,.any),(true,.any)] true (I (cY boxes (at_ data m.toNat) (at_ data (((i+j)/2).toNat))))),(10,.dec false)] [0,2,4,14,15,16,103] [] [(0:Int)≤m∧m<(data.length:Int),(0:Int)≤((i+j)/2)∧((i+j)/2)<(data.length:Int),_∧True,¬ ((cY boxes (at_ data m.toNat) (at_ data (((i+j)/2).toNat)))<0)] hB ⟨⟨om,om⟩,⟨om,om⟩,⟨(Zcs (at_ data m.toNat) (at_ data (((i+j)/2).toNat)) boxes (by first|omega|exact hcl _ (Zbj om)) (by first|omega|exact hcl _ (Zbj om))),trivial⟩,(Zlv hsd om om),trivial⟩ (Zcf ?_)
    refine Zei [] [0,2,4,14,15] [] [slI false data,I m,.fn 64 [.ptr false [Zae false boxes]],I (((i+j)/2)+1),I j] [] [inR .i64 (((i+j)/2)+1)] hB ⟨(Zaf om om),trivial⟩ (Zbq 5 ?_)
    exact Zbr _ om ⟨(((i+j)/2)+1),j,rfl,om,rfl⟩
   refine Zbz [(2,.dec false)] [0,2,4,14,15,85] [] [_] hB ⟨h4,trivial⟩ (Zad (Zbw (Zcl (Zaj (Zaj (Zav (Zad (Zai ?_))))))))
   refine aR [] [0,14,17] [] [slI false data,I i,I m] [] [] hB trivial (Zar ?_)
   refine Zcg (fun gn gσ=>∃(k:Int),gn=(0:Nat)∧(k=m)∧gσ=mkS [(0,slI false data),(14,I i),(17,I k)] []) ((0:Nat)) ⟨m,rfl,(by first|rfl|omega),rfl⟩ (fun gn gσ hI=> ?_)
   obtain ⟨k,rfl,hk0,rfl⟩:=hI
   refine Zai ?_
   refine aR [(2,.dec false)] [0,14,17,110] [] [slI false data,I i,I k,Bv false] [] [¬ (i<k)] hB ⟨om,trivial⟩ (Zds rfl (Zcl (Zaj (Zaj (Zav (Zad (Zaz (Zal ?_))))))))
   refine Zax hB (.tup []) (by kernel_rfl) (.inl rfl) rfl (fun _=>(by simp [Zah,Zag]))
  refine Zbz [(3,.dec false)] [0,1,2,3,4,80] [] [inR .i64 (b-m),_] hB ⟨(Zaf om om),h3,trivial⟩ (Zad (Zbw (Zaq (Zad ?_))))
  refine aQ [] [0,1,2,3,4,18] [] [inR .i64 (a+b),inR .u64 (a+b),(0:Int)≤1∧(1:Int)≤((IntKind.bits .u64:Nat):Int),inR .i64 ((a+b)/2)] hB ⟨(Zaf om om),(Zfr om om),⟨(by decide),(by decide)⟩,(Zaf om om),trivial⟩ ?_
  refine aQ [] [0,1,2,3,4,18,19] [] [inR .i64 (((a+b)/2)+m)] hB ⟨(Zaf om om),trivial⟩ ?_
  refine aR [] [0,1,2,3,4,18,19] [] [slI false data,I a,I m,I b,.fn 64 [.ptr false [Zae false boxes]],I ((a+b)/2),I (((a+b)/2)+m)] [] [] hB trivial (Zai (Zai ?_))
  by_cases h5:((a+b)/2)<m
  ·refine Zbz [(2,.dec true)] [0,1,2,3,4,18,19,140] [] [_] hB ⟨h5,trivial⟩ (Zad (Zcf ?_))
   refine aQ [] [0,1,2,3,4,18,19,20] [] [inR .i64 ((((a+b)/2)+m)-b)] hB ⟨(Zaf om om),trivial⟩ ?_
   refine Zbz [] [0,1,2,3,4,18,19,20,21] [] [] hB trivial (Zad ?_)
   refine aR [] [0,1,2,3,4,18,19,20,21,22] [] [slI false data,I a,I m,I b,.fn 64 [.ptr false [Zae false boxes]],I ((a+b)/2),I (((a+b)/2)+m),I ((((a+b)/2)+m)-b),I ((a+b)/2),I ((((a+b)/2)+m)-1)] [] [inR .i64 ((((a+b)/2)+m)-1)] hB ⟨(Zaf om om),trivial⟩ (Zai (Zar ?_))
   refine Zcg (fun gn gσ=>∃(start:Int) (r:Int),gn=(r-start).toNat∧((((a+b)/2)<m∧r=((a+b)/2)∧((a+b)/2)+m-b≤start∨m≤((a+b)/2)∧r=m∧a≤start))∧(start≤r)∧gσ=mkS [(0,slI false data),(1,I a),(2,I m),(3,I b),(4,.fn 64 [.ptr false [Zae false boxes]]),(18,I ((a+b)/2)),(19,I (((a+b)/2)+m)),(20,I start),(21,I r),(22,I ((((a+b)/2)+m)-1))] []) ((((a+b)/2)-((((a+b)/2)+m)-b)).toNat) ⟨((((a+b)/2)+m)-b),((a+b)/2),rfl,om,om,rfl⟩ (fun gn gσ hI=> ?_)
   obtain ⟨start,r,rfl,hr0,hs0,rfl⟩:=hI
   refine Zai (Zai ?_)
   by_cases h6:start<r
   ·refine Zbz [(2,.dec true)] [0,1,2,3,4,18,19,20,21,22,151] [] [_] hB ⟨h6,trivial⟩ (Zad (Zcf (Zaq (Zad (Zar ?_)))))
    refine aQ [] [0,1,2,3,4,18,19,20,21,22,23] [] [inR .i64 (start+r),inR .u64 (start+r),(0:Int)≤1∧(1:Int)≤((IntKind.bits .u64:Nat):Int),inR .i64 ((start+r)/2)] hB ⟨(Zaf om om),(Zfr om om),⟨(by decide),(by decide)⟩,(Zaf om om),trivial⟩ ?_
    refine aQ [(11,.call [(true,.any),(true,.any),(true,.any)] true (I (cY boxes (at_ data ((((((a+b)/2)+m)-1)-((start+r)/2)).toNat)) (at_ data (((start+r)/2).toNat))))),(12,.dec false)] [0,1,2,3,4,18,19,20,21,22,23,171] [] [inR .i64 (((((a+b)/2)+m)-1)-((start+r)/2)),(0:Int)≤(((((a+b)/2)+m)-1)-((start+r)/2))∧(((((a+b)/2)+m)-1)-((start+r)/2))<(data.length:Int),(0:Int)≤((start+r)/2)∧((start+r)/2)<(data.length:Int),_∧True,¬ ((cY boxes (at_ data ((((((a+b)/2)+m)-1)-((start+r)/2)).toNat)) (at_ data (((start+r)/2).toNat)))<0)] hB ⟨(Zaf om om),⟨om,om⟩,⟨om,om⟩,⟨(Zcs (at_ data ((((((a+b)/2)+m)-1)-((start+r)/2)).toNat)) (at_ data (((start+r)/2).toNat)) boxes (by first|omega|exact hcl _ (Zbj om)) (by first|omega|exact hcl _ (Zbj om))),trivial⟩,(Zlv hsd om om),trivial⟩ (Zcf ?_)
    refine Zei [] [0,1,2,3,4,18,19,20,21,22] [] [slI false data,I a,I m,I b,.fn 64 [.ptr false [Zae false boxes]],I ((a+b)/2),I (((a+b)/2)+m),I (((start+r)/2)+1),I r,I ((((a+b)/2)+m)-1)] [] [inR .i64 (((start+r)/2)+1)] hB ⟨(Zaf om om),trivial⟩ (Zbq 9 ?_)
    exact Zbr _ om ⟨(((start+r)/2)+1),r,rfl,om,om,rfl⟩
   refine Zbz [(2,.dec false)] [0,1,2,3,4,18,19,20,21,22,151] [] [_] hB ⟨h6,trivial⟩ (Zad (Zbw (Zcl (Zaj (Zaj (Zav (Zad ?_)))))))
   refine aQ [] [0,1,2,3,4,18,20,24] [] [inR .i64 ((((a+b)/2)+m)-start)] hB ⟨(Zaf om om),trivial⟩ (Zai ?_)
   refine aQ [(2,.dec true),(6,.dec false)] [0,1,2,3,4,18,20,24,185] [] [start<m,¬ (m<((((a+b)/2)+m)-start))] hB ⟨om,om,trivial⟩ (Zbw (Zaq (Zad (Zai ?_))))
   refine aR [(2,.dec true),(6,.dec false)] [0,1,3,4,18,20,24,199] [] [slI false data,I a,I b,.fn 64 [.ptr false [Zae false boxes]],I ((a+b)/2),I start,I ((((a+b)/2)+m)-start),Bv false] [] [a<start,¬ (start<((a+b)/2))] hB ⟨om,om,trivial⟩ (Zds rfl (Zaq (Zad ?_)))
   refine aQ [(2,.dec true),(6,.dec true)] [0,3,4,18,24,213] [] [((a+b)/2)<((((a+b)/2)+m)-start),((((a+b)/2)+m)-start)<b] hB ⟨om,om,trivial⟩ (Zcf ?_)
   refine Zei [(5,.call [(true,.any),(true,.any),(true,.any),(true,.any),(true,.any)] true (.tup []))] [] [] [] [] [_∧True] hB ⟨⟨(ih data ((a+b)/2) ((((a+b)/2)+m)-start) b boxes om om om hsd hcl),trivial⟩,trivial⟩ ?_
   refine Zax hB (.tup []) (by kernel_rfl) (.inl rfl) rfl (fun _=>(by simp [Zah,Zag]))
  refine Zbz [(2,.dec false)] [0,1,2,3,4,18,19,140] [] [_] hB ⟨h5,trivial⟩ (Zad (Zbw ?_))
  refine aQ [] [0,1,2,3,4,18,19,20] [] [] hB trivial ?_
  refine Zbz [] [0,1,2,3,4,18,19,20,21] [] [] hB trivial (Zad ?_)
  refine aR [] [0,1,2,3,4,18,19,20,21,22] [] [slI false data,I a,I m,I b,.fn 64 [.ptr false [Zae false boxes]],I ((a+b)/2),I (((a+b)/2)+m),I a,I m,I ((((a+b)/2)+m)-1)] [] [inR .i64 ((((a+b)/2)+m)-1)] hB ⟨(Zaf om om),trivial⟩ (Zai (Zar ?_))
  refine Zcg (fun gn gσ=>∃(start:Int) (r:Int),gn=(r-start).toNat∧((((a+b)/2)<m∧r=((a+b)/2)∧((a+b)/2)+m-b≤start∨m≤((a+b)/2)∧r=m∧a≤start))∧(start≤r)∧gσ=mkS [(0,slI false data),(1,I a),(2,I m),(3,I b),(4,.fn 64 [.ptr false [Zae false boxes]]),(18,I ((a+b)/2)),(19,I (((a+b)/2)+m)),(20,I start),(21,I r),(22,I ((((a+b)/2)+m)-1))] []) ((m-a).toNat) ⟨a,m,rfl,om,om,rfl⟩ (fun gn gσ hI=> ?_)
  obtain ⟨start,r,rfl,hr0,hs0,rfl⟩:=hI
  refine Zai (Zai ?_)
  by_cases h7:start<r
  ·refine Zbz [(2,.dec true)] [0,1,2,3,4,18,19,20,21,22,151] [] [_] hB ⟨h7,trivial⟩ (Zad (Zcf (Zaq (Zad (Zar ?_)))))
   refine aQ [] [0,1,2,3,4,18,19,20,21,22,23] [] [inR .i64 (start+r),inR .u64 (start+r),(0:Int)≤1∧(1:Int)≤((IntKind.bits .u64:Nat):Int),inR .i64 ((start+r)/2)] hB ⟨(Zaf om om),(Zfr om om),⟨(by decide),(by decide)⟩,(Zaf om om),trivial⟩ ?_
   refine aQ [(11,.call [(true,.any),(true,.any),(true,.any)] true (I (cY boxes (at_ data ((((((a+b)/2)+m)-1)-((start+r)/2)).toNat)) (at_ data (((start+r)/2).toNat))))),(12,.dec false)] [0,1,2,3,4,18,19,20,21,22,23,171] [] [inR .i64 (((((a+b)/2)+m)-1)-((start+r)/2)),(0:Int)≤(((((a+b)/2)+m)-1)-((start+r)/2))∧(((((a+b)/2)+m)-1)-((start+r)/2))<(data.length:Int),(0:Int)≤((start+r)/2)∧((start+r)/2)<(data.length:Int),_∧True,¬ ((cY boxes (at_ data ((((((a+b)/2)+m)-1)-((start+r)/2)).toNat)) (at_ data (((start+r)/2).toNat)))<0)] hB ⟨(Zaf om om),⟨om,om⟩,⟨om,om⟩,⟨(Zcs (at_ data ((((((a+b)/2)+m)-1)-((start+r)/2)).toNat)) (at_ data (((start+r)/2).toNat)) boxes (by first|omega|exact hcl _ (Zbj om)) (by first|omega|exact hcl _ (Zbj om))),trivial⟩,(Zlv hsd om om),trivial⟩ (Zcf ?_)
   refine Zei [] [0,1,2,3,4,18,19,20,21,22] [] [slI false data,I a,I m,I b,.fn 64 [.ptr false [Zae false boxes]],I ((a+b)/2),I (((a+b)/2)+m),I (((start+r)/2)+1),I r,I ((((a+b)/2)+m)-1)] [] [inR .i64 (((start+r)/2)+1)] hB ⟨(Zaf om om),trivial⟩ (Zbq 9 ?_)
   exact Zbr _ om ⟨(((start+r)/2)+1),r,rfl,om,om,rfl⟩
  refine Zbz [(2,.dec false)] [0,1,2,3,4,18,19,20,21,22,151] [] [_] hB ⟨h7,trivial⟩ (Zad (Zbw (Zcl (Zaj (Zaj (Zav (Zad ?_)))))))
  refine aQ [] [0,1,2,3,4,18,20,24] [] [inR .i64 ((((a+b)/2)+m)-start)] hB ⟨(Zaf om om),trivial⟩ (Zai ?_)
  refine aQ [(2,.dec false)] [0,1,2,3,4,18,20,24,185] [] [¬ (start<m)] hB ⟨om,trivial⟩ (Zbw (Zaq (Zad (Zai (Zai ?_)))))
  by_cases h8:start<((a+b)/2)
  ·refine Zei [(2,.dec true),(6,.dec true)] [0,1,3,4,18,20,24,199] [] [slI false data,I a,I b,.fn 64 [.ptr false [Zae false boxes]],I ((a+b)/2),I start,I ((((a+b)/2)+m)-start),Bv true] [] [a<start,_] hB ⟨om,h8,trivial⟩ (Zad (Zhx rfl ?_))
   refine Zbz [(5,.call [(true,.any),(true,.any),(true,.any),(true,.any),(true,.any)] true (.tup []))] [0,3,4,18,24] [] [_∧True] hB ⟨⟨(ih data a start ((a+b)/2) boxes om om om hsd hcl),trivial⟩,trivial⟩ (Zad ?_)
   refine aR [(2,.dec false)] [0,3,4,18,24,213] [] [slI false data,I b,.fn 64 [.ptr false [Zae false boxes]],I ((a+b)/2),I ((((a+b)/2)+m)-start),Bv false] [] [¬ (((a+b)/2)<((((a+b)/2)+m)-start))] hB ⟨om,trivial⟩ (Zds rfl (Zaq ?_))
   refine Zax hB (.tup []) (by kernel_rfl) (.inl rfl) rfl (fun _=>(by simp [Zah,Zag]))
  refine Zbz [(2,.dec true),(6,.dec false)] [0,1,3,4,18,20,24,199] [] [a<start,_] hB ⟨om,h8,trivial⟩ (Zad (Zbw (Zaq (Zad ?_))))
  refine aR [(2,.dec false)] [0,3,4,18,24,213] [] [slI false data,I b,.fn 64 [.ptr false [Zae false boxes]],I ((a+b)/2),I ((((a+b)/2)+m)-start),Bv false] [] [¬ (((a+b)/2)<((((a+b)/2)+m)-start))] hB ⟨om,trivial⟩ (Zds rfl (Zaq ?_))
  refine Zax hB (.tup []) (by kernel_rfl) (.inl rfl) rfl (fun _=>(by simp [Zah,Zag]))
theorem Zvq:∀(N:Nat) (data:List Int) (a m b:Int) (boxes:List Box),(b-a).toNat≤N→0≤a∧a<m∧m<b∧b≤(data.length:Int)→data.length≤1000→Zml (cY boxes) data→(∀x∈data,0≤x∧x<(boxes.length:Int))→Con Try.prog 85 [slI false data,I a,I m,I b,.fn 64 [.ptr false [Zae false boxes]]] true (.tup []):=by
 intro N
 induction N with
 |zero=>intro data a m b boxes h1 h2;omega
 |succ N ih=>intro data a m b boxes h1 h2 h3 h4 h5;exact Zsr data a m b boxes (N+1) (fun data a m b boxes h1 h2 h3 h4 h5=>ih data a m b boxes om h2 h3 h4 h5) h1 h2 h3 h4 h5
theorem Zrf (data:List Int) (a m b:Int) (boxes:List Box) (hb:0≤a∧a<m∧m<b∧b≤(data.length:Int)) (hl:data.length≤1000) (hsd:Zml (cY boxes) data) (hcl:∀x∈data,0≤x∧x<(boxes.length:Int)):Con Try.prog 85 [slI false data,I a,I m,I b,.fn 64 [.ptr false [Zae false boxes]]] true (.tup []):=Zvq _ data a m b boxes (Nat.le_refl _) hb hl hsd hcl
theorem Zyb (data:List Int) (n:Int) (boxes:List Box) (hb:n=(data.length:Int)) (hl:data.length≤1000) (hsd:Zml (cY boxes) data) (hcl:∀x∈data,0≤x∧x<(boxes.length:Int)):Con Try.prog 76 [slI false data,I n,.fn 64 [.ptr false [Zae false boxes]]] true (.tup []):=by
  refine Zda (fn:=Try.f76) (nt:=63) Try.func76 rfl rfl rfl rfl (by simp [Zag,Zah,Zbo,Zft]) fun B hB=> ?_
  refine Zbt (x:=slI false data) 0 rfl (fun len_data=> ?_)
  simp [Zdb,Zfv,cI,fI,slI] at len_data
  refine aQ [] [0,1,2,6] [] [] hB trivial ?_
  refine aR [] [0,1,2,6,7,8] [] [slI false data,I n,.fn 64 [.ptr false [Zae false boxes]],I 20,I 0,I 20] [] [] hB trivial (Zai (Zar ?_))
  refine Zcg (fun gn gσ=>∃(a:Int) (b:Int),gn=(n-a).toNat∧(0≤a∧b=a+20∧a≤n)∧gσ=mkS [(0,slI false data),(1,I n),(2,.fn 64 [.ptr false [Zae false boxes]]),(6,I 20),(7,I a),(8,I b)] []) ((n-0).toNat) ⟨0,20,rfl,om,rfl⟩ (fun gn gσ hI=> ?_)
  obtain ⟨a,b,rfl,ha0,rfl⟩:=hI
  refine Zai (Zai ?_)
  by_cases h1:b≤n
  ·refine Zbz [(2,.dec true)] [0,1,2,6,7,8,13] [] [_] hB ⟨h1,trivial⟩ (Zad (Zcf (Zaq (Zad (Zar ?_)))))
   refine aQ [(4,.call [(true,.any),(true,.any),(true,.any),(true,.any)] true (.tup []))] [0,1,2,6,8] [] [_∧True] hB ⟨⟨(Zre data a b boxes om om hsd hcl),trivial⟩,trivial⟩ ?_
   refine aQ [] [0,1,2,6,7,8] [] [] hB trivial ?_
   refine Zei [] [0,1,2,6,7,8] [] [slI false data,I n,.fn 64 [.ptr false [Zae false boxes]],I 20,I b,I (b+20)] [] [inR .i64 (b+20)] hB ⟨(Zaf om om),trivial⟩ (Zbq 1 ?_)
   exact Zbr _ om ⟨b,(b+20),rfl,om,rfl⟩
  refine Zbz [(2,.dec false)] [0,1,2,6,7,8,13] [] [_] hB ⟨h1,trivial⟩ (Zad (Zbw (Zcl (Zaj (Zaj (Zav (Zad ?_)))))))
  refine aR [(4,.call [(true,.any),(true,.any),(true,.any),(true,.any)] true (.tup []))] [0,1,2,6] [] [slI false data,I n,.fn 64 [.ptr false [Zae false boxes]],I 20] [] [_∧True] hB ⟨⟨(Zre data a n boxes om om hsd hcl),trivial⟩,trivial⟩ (Zar ?_)
  refine Zcg (fun gn gσ=>∃(blockSize:Int),gn=(n-blockSize).toNat∧(20≤blockSize∧blockSize≤2000)∧gσ=mkS [(0,slI false data),(1,I n),(2,.fn 64 [.ptr false [Zae false boxes]]),(6,I blockSize)] []) ((n-20).toNat) ⟨20,rfl,om,rfl⟩ (fun gn gσ hI=> ?_)
  obtain ⟨blockSize,rfl,hbs,rfl⟩:=hI
  refine Zai (Zai ?_)
  by_cases h2:blockSize<n
  ·refine Zbz [(2,.dec true)] [0,1,2,6,30] [] [_] hB ⟨h2,trivial⟩ (Zad (Zcf (Zaq (Zad (Zar ?_)))))
   refine aR [] [0,1,2,6,7,8] [] [slI false data,I n,.fn 64 [.ptr false [Zae false boxes]],I blockSize,I 0,I (2*blockSize)] [] [inR .i64 (2*blockSize)] hB ⟨(Zaf om om),trivial⟩ (Zai (Zar ?_))
   refine Zcg (fun gn gσ=>∃(a':Int) (b':Int),gn=(n-a').toNat∧(0≤a'∧b'=a'+2*blockSize∧a'≤n)∧gσ=mkS [(0,slI false data),(1,I n),(2,.fn 64 [.ptr false [Zae false boxes]]),(6,I blockSize),(7,I a'),(8,I b')] []) ((n-0).toNat) ⟨0,(2*blockSize),rfl,om,rfl⟩ (fun gn gσ hI=> ?_)
   obtain ⟨a',b',rfl,ha1,rfl⟩:=hI
   refine Zai (Zai ?_)
   by_cases h3:b'≤n
   ·refine Zbz [(2,.dec true)] [0,1,2,6,7,8,35] [] [_] hB ⟨h3,trivial⟩ (Zad (Zcf (Zaq (Zad (Zar ?_)))))
    refine aQ [(7,.call [(true,.any),(true,.any),(true,.any),(true,.any),(true,.any)] true (.tup []))] [0,1,2,6,8] [] [inR .i64 (a'+blockSize),_∧True] hB ⟨(Zaf om om),⟨(Zrf data a' (a'+blockSize) b' boxes om om hsd hcl),trivial⟩,trivial⟩ ?_
    refine aQ [] [0,1,2,6,7,8] [] [] hB trivial ?_
    refine Zei [] [0,1,2,6,7,8] [] [slI false data,I n,.fn 64 [.ptr false [Zae false boxes]],I blockSize,I b',I (b'+(2*blockSize))] [] [inR .i64 (2*blockSize),inR .i64 (b'+(2*blockSize))] hB ⟨(Zaf om om),(Zaf om om),trivial⟩ (Zbq 5 ?_)
    exact Zbr _ om ⟨b',(b'+(2*blockSize)),rfl,om,rfl⟩
   refine Zbz [(2,.dec false)] [0,1,2,6,7,8,35] [] [_] hB ⟨h3,trivial⟩ (Zad (Zbw (Zcl (Zaj (Zaj (Zav (Zad (Zai ?_))))))))
   refine aQ [] [0,1,2,6,7,9] [] [inR .i64 (a'+blockSize)] hB ⟨(Zaf om om),trivial⟩ (Zai ?_)
   by_cases h4:(a'+blockSize)<n
   ·refine Zbz [(2,.dec true)] [0,1,2,6,7,9,54] [] [_] hB ⟨h4,trivial⟩ (Zad (Zcf ?_))
    refine Zei [(5,.call [(true,.any),(true,.any),(true,.any),(true,.any),(true,.any)] true (.tup []))] [0,1,2,6] [] [slI false data,I n,.fn 64 [.ptr false [Zae false boxes]],I blockSize] [] [_∧True] hB ⟨⟨(Zrf data a' (a'+blockSize) n boxes om om hsd hcl),trivial⟩,trivial⟩ (Zad ?_)
    refine Zei [] [0,1,2,6] [] [slI false data,I n,.fn 64 [.ptr false [Zae false boxes]],I (blockSize*2)] [] [inR .i64 (blockSize*2)] hB ⟨(Zaf om om),trivial⟩ (Zbq 3 ?_)
    exact Zbr _ om ⟨(blockSize*2),rfl,om,rfl⟩
   refine Zbz [(2,.dec false)] [0,1,2,6,7,9,54] [] [_] hB ⟨h4,trivial⟩ (Zad (Zbw (Zaq (Zad ?_))))
   refine Zei [] [0,1,2,6] [] [slI false data,I n,.fn 64 [.ptr false [Zae false boxes]],I (blockSize*2)] [] [inR .i64 (blockSize*2)] hB ⟨(Zaf om om),trivial⟩ (Zbq 3 ?_)
   exact Zbr _ om ⟨(blockSize*2),rfl,om,rfl⟩
  refine Zei [(2,.dec false)] [0,1,2,6,30] [] [slI false data,I n,.fn 64 [.ptr false [Zae false boxes]],I blockSize,Bv false] [] [_] hB ⟨h2,trivial⟩ (Zad (Zds rfl (Zcl (Zaj (Zaj (Zav ?_))))))
  refine Zax hB (.tup []) (by kernel_rfl) (.inl rfl) rfl (fun _=>(by simp [Zah,Zag]))
theorem Zvr (data:List Int) (boxes:List Box) (hl:data.length=60) (hsd:Zml (cY boxes) data) (hcl:∀x∈data,0≤x∧x<(boxes.length:Int)):∃(data':List Int),(data'=data)∧Zao Try.prog 63 [.arr 7214,.fn 64 [.ptr false [Zae false boxes]]] (Zab [(7214,tAI data)]) true (.tup []) (Zab [(7214,tAI data')]):=by
 have hh:∃r:(List Int),((r=data)∧(True))∧Zao Try.prog 63 [.arr 7214,.fn 64 [.ptr false [Zae false boxes]]] (Zab [(7214,tAI data)]) true (.tup []) (Zab [(7214,tAI r)]):=by
  refine Zcp (Φ:=fun r:(List Int)=>(r=data)∧(True)) [(7214,tAI data)] (fun r=>[(7214,tAI r)]) (fn:=Try.f63) (nt:=9) Try.func63 rfl rfl (args:=[.arr 7214,.fn 64 [.ptr false [Zae false boxes]]]) rfl (Zap (.inr trivial) (Zap (.inl ⟨rfl,by simp [Zah,Zag,Zbo]⟩) Zco)) (res:=fun r=> .tup []) ?_
  refine x_r [(4,.call [(false,slI false data),(true,.any),(true,.any)] true (.tup []))] [] [7214] [] [some (tAI data)] [_∧((false=true→true=true)∧1=1∧data.length=data.length∧∀i_,i_<data.length→(fI data) i_=(fI data) i_∨(AV.idsL ((fI data) i_)=[]∧leL (fun _=>none) false ((fI data) i_) ((fI data) i_)))∧True] ⟨⟨(Zyb data (data.length:Int) boxes om om hsd hcl),⟨(fun h=>by cases h),rfl,rfl,fun i _=> .inl rfl⟩,trivial⟩,trivial⟩ ?_
  refine Zhy data (show (data=data)∧(True) from ⟨(by first|rfl|assumption),trivial⟩) (⟨.inl rfl,trivial⟩) (.tup []) (by kernel_rfl) (.inl rfl) (fun _=>rfl) (fun _=>(by simp [Zah,Zag]))
 obtain ⟨data',⟨hh0,_⟩,hc⟩:=hh
 exact ⟨data',hh0,hc⟩
theorem sYins_ok (data:List Int) (a:Int) (b:Int) (boxes:List Box) (hb:a=0∧b=(data.length:Int)) (hl:data.length<20) (hcl:∀x∈data,0≤x∧x<(boxes.length:Int)):∃(data':List Int),(data'=Zci (cY boxes) data data.length)∧Zao Try.prog 84 [.arr 7214,I a,I b,.fn 64 [.ptr false [Zae false boxes]]] (Zab [(7214,tAI data)]) true (.tup []) (Zab [(7214,tAI data')]):=by
  have hh:∃r:(List Int),((r=Zci (cY boxes) data data.length)∧(True))∧Zao Try.prog 84 [.arr 7214,I a,I b,.fn 64 [.ptr false [Zae false boxes]]] (Zab [(7214,tAI data)]) true (.tup []) (Zab [(7214,tAI r)]):=by
    refine Zcp (Φ:=fun r:(List Int)=>(r=Zci (cY boxes) data data.length)∧(True)) [(7214,tAI data)] (fun r=>[(7214,tAI r)]) (fn:=Try.f84) (nt:=53) Try.func84 rfl rfl (args:=[.arr 7214,I a,I b,.fn 64 [.ptr false [Zae false boxes]]]) rfl (Zap (.inr trivial) (Zap (.inl ⟨rfl,trivial⟩) (Zap (.inl ⟨rfl,trivial⟩) (Zap (.inl ⟨rfl,by simp [Zah,Zag,Zbo]⟩) Zco)))) (res:=fun r=> .tup []) ?_
    refine xR [] [0,1,2,3,8] [7214] [.arr 7214,I a,I b,.fn 64 [.ptr false [Zae false boxes]],I (a+1)] [some (tAI data)] [inR .i64 (a+1)] ⟨(Zaf om om),trivial⟩ (Zbg ?_)
    refine Zdn (X:=Int×(List Int)) (fun x=>mkS [(0,.arr 7214),(1,I a),(2,I b),(3,.fn 64 [.ptr false [Zae false boxes]]),(8,I x.1)] [(7214,tAI x.2)]) (fun x=>(1≤x.1∧(x.1≤(data.length:Int)∨x.1=1))∧(x.2=Zci (cY boxes) data (min x.1.toNat data.length)++data.drop x.1.toNat)∧True) (fun x=>((data.length:Int)-x.1).toNat) ((a+1),data) rfl (show (1≤(a+1)∧((a+1)≤(data.length:Int)∨(a+1)=1))∧(data=Zci (cY boxes) data (min (a+1).toNat data.length)++data.drop (a+1).toNat)∧True from ⟨om,(by first|exact Ziy _ _|(rw [show (a+1).toNat=1 from by omega];exact Ziy _ _)),trivial⟩) (fun x hI=> ?_)
    obtain ⟨i,ys⟩:=x
    obtain ⟨hi0,hys,_⟩:(1≤i∧(i≤(data.length:Int)∨i=1))∧(ys=Zci (cY boxes) data (min i.toNat data.length)++data.drop i.toNat)∧True:=hI
    show XW _ _ _ _ (mkS [(0,.arr 7214),(1,I a),(2,I b),(3,.fn 64 [.ptr false [Zae false boxes]]),(8,I i)] [(7214,tAI ys)]) _ _
    refine Zam (Zam ?_)
    by_cases h1:i<b
    ·have hi:i.toNat<data.length:=by omega
     have hmi:min i.toNat data.length=i.toNat:=by omega
     rw [hmi,iso_in hi] at hys
     have hpl:=Zem (cY boxes) data i.toNat
     have hyl:ys.length=data.length:=by rw [hys,List.length_append,Zgj om,List.length_drop,hpl];omega
     refine x_q [(2,.dec true)] [0,1,2,3,8,14] [7214] [_] ⟨h1,trivial⟩ (Zac (Zel (Zbn (Zac (Zam (Zbg ?_))))))
     refine xR [] [0,1,2,3,8,9] [7214] [.arr 7214,I a,I b,.fn 64 [.ptr false [Zae false boxes]],I i,I i] [some (tAI ys)] [] trivial (Zbg ?_)
     refine Zdn (X:=Int×(List Int)) (fun x=>mkS [(0,.arr 7214),(1,I a),(2,I b),(3,.fn 64 [.ptr false [Zae false boxes]]),(8,I i),(9,I x.1)] [(7214,tAI x.2)]) (fun x=>(0≤x.1∧x.1≤i)∧(x.2=Zhj (Zci (cY boxes) data i.toNat) (at_ data i.toNat) x.1.toNat++data.drop (i.toNat+1))∧(∀k:Nat,x.1≤(k:Int)→(k:Int)<i→(cY boxes) (at_ data i.toNat) (at_ (Zci (cY boxes) data i.toNat) k)<0)∧True) (fun x=>x.1.toNat) (i,ys) rfl (show (0≤i∧i≤i)∧(ys=Zhj (Zci (cY boxes) data i.toNat) (at_ data i.toNat) i.toNat++data.drop (i.toNat+1))∧(∀k:Nat,i≤(k:Int)→(k:Int)<i→(cY boxes) (at_ data i.toNat) (at_ (Zci (cY boxes) data i.toNat) k)<0)∧True from ⟨om,(by first|exact hys|(rw [hys];done)),(by intro k h1 h2;omega),trivial⟩) (fun x hI=> ?_)
     obtain ⟨j,ys'⟩:=x
     obtain ⟨hj0,hin,hgt,_⟩:(0≤j∧j≤i)∧(ys'=Zhj (Zci (cY boxes) data i.toNat) (at_ data i.toNat) j.toNat++data.drop (i.toNat+1))∧(∀k:Nat,j≤(k:Int)→(k:Int)<i→(cY boxes) (at_ data i.toNat) (at_ (Zci (cY boxes) data i.toNat) k)<0)∧True:=hI
     show XW _ _ _ _ (mkS [(0,.arr 7214),(1,I a),(2,I b),(3,.fn 64 [.ptr false [Zae false boxes]]),(8,I i),(9,I j)] [(7214,tAI ys')]) _ _
     refine Zam (Zam ?_)
     by_cases h2:a<j
     ·have hyl':ys'.length=data.length:=by rw [hin,List.length_append,Zgj om,List.length_drop,hpl];omega
      have e1:at_ ys' j.toNat=(at_ data i.toNat):=by rw [hin];exact Zyc om
      have e2:at_ ys' (j-1).toNat=at_ (Zci (cY boxes) data i.toNat) (j.toNat-1):=by rw [hin,Ziz om om];congr 1;omega
      have hce1:=hcl _ (Zbj hi)
      rw [←e1] at hce1
      have hce2:=Zlw (c:=(cY boxes)) hcl i.toNat om _ (Zbj (xs:=(Zci (cY boxes) data i.toNat)) (i:=j.toNat-1) om)
      rw [←e2] at hce2
      by_cases h3:(cY boxes (at_ ys' j.toNat) (at_ ys' ((j-1).toNat)))<0
      ·have hq:=h3
       rw [e1,e2] at hq
       have hst:(ys'.set j.toNat (at_ ys' (j-1).toNat)).set (j-1).toNat (at_ ys' j.toNat)=Zhj (Zci (cY boxes) data i.toNat) (at_ data i.toNat) (j-1).toNat++data.drop (i.toNat+1):=by have q:=Zuf (p:=(Zci (cY boxes) data i.toNat)) (x:=(at_ data i.toNat)) (r:=data.drop (i.toNat+1)) (j:=(j-1).toNat) om;rw [show (j-1).toNat+1=j.toNat from by omega] at q;rw [e1,e2,hin,←q,show j.toNat-1=(j-1).toNat from by omega]
       have hgn:∀k:Nat,j-1≤(k:Int)→(k:Int)<i→(cY boxes) (at_ data i.toNat) (at_ (Zci (cY boxes) data i.toNat) k)<0:=fun k h1 h2=>by by_cases e:(k:Int)=j-1;(rw [show k=j.toNat-1 from by omega];exact hq);exact hgt k om h2
       refine x_q [(2,.dec true),(14,.call [(true,.any),(true,.any),(true,.any)] true (I (cY boxes (at_ ys' j.toNat) (at_ ys' ((j-1).toNat))))),(15,.dec true)] [0,1,2,3,8,9,34] [7214] [_,(0:Int)≤j∧j<(ys'.length:Int),j.toNat<ys'.length,inR .i64 (j-1),(0:Int)≤(j-1)∧(j-1)<(ys'.length:Int),(j-1).toNat<ys'.length,_∧True,_] ⟨h2,⟨om,om⟩,om,(Zaf om om),⟨om,om⟩,om,⟨(Zcs (at_ ys' j.toNat) (at_ ys' ((j-1).toNat)) boxes (by first|omega|exact hcl _ (Zbj om)) (by first|omega|exact hcl _ (Zbj om))),trivial⟩,h3,trivial⟩ (Zac (Zel (Zbn (Zac (Zam (Zbg ?_))))))
       refine x_q [] [0,1,2,3,8,9] [7214] [inR .i64 (j-1),inR .i64 (j-1),(0:Int)≤(j-1)∧(j-1)<(ys'.length:Int),(j-1).toNat<ys'.length,(0:Int)≤j∧j<(ys'.length:Int),j.toNat<ys'.length,(0:Int)≤j∧j<(ys'.length:Int),j.toNat<ys'.length,(0:Int)≤(j-1)∧(j-1)<(ys'.length:Int),(j-1).toNat<ys'.length] ⟨(Zaf om om),(Zaf om om),⟨om,om⟩,om,⟨om,om⟩,om,⟨om,om⟩,om,⟨om,om⟩,om,trivial⟩ (Zbm 3 (Zac ?_))
       refine x_r [] [0,1,2,3,8,9] [7214] [.arr 7214,I a,I b,.fn 64 [.ptr false [Zae false boxes]],I i,I (j-1)] [some (.arr 1 ys'.length (fun q=>bif Nat.beq q ((j-1).toNat) then spl ((fun q=>bif Nat.beq q j.toNat then [I (at_ ys' ((j-1).toNat))] else (fI ys') q) ((j-1).toNat)) 0 [I (at_ ys' j.toNat)] else (fun q=>bif Nat.beq q j.toNat then [I (at_ ys' ((j-1).toNat))] else (fI ys') q) q))] [inR .i64 (j-1)] ⟨(Zaf om om),trivial⟩ ?_
       refine Zcb [] (T:=[(0,.arr 7214),(1,I a),(2,I b),(3,.fn 64 [.ptr false [Zae false boxes]]),(8,I i),(9,I (j-1))]) (O:=[(7214,tAI ((ys'.set j.toNat (at_ ys' ((j-1).toNat))).set ((j-1).toNat) (at_ ys' j.toNat)))]) rfl (⟨.inl rfl,.inl rfl,.inl rfl,.inl rfl,.inl rfl,.inl rfl,trivial⟩) (⟨.inr ⟨rfl,(by first|rfl|(simp;done)|(simp;omega)|omega),fun i_ hi_=> .inl (Zxw (enc:=cI) (fun i_ hi_=>(Zrw (enc:=cI) rfl i_ hi_)) ((by first|omega|(simp only [List.length_set];omega))) rfl i_ hi_)⟩,trivial⟩) (Zbu ((j-1),((ys'.set j.toNat (at_ ys' ((j-1).toNat))).set ((j-1).toNat) (at_ ys' j.toNat))) rfl (show (0≤(j-1)∧(j-1)≤i)∧(((ys'.set j.toNat (at_ ys' ((j-1).toNat))).set ((j-1).toNat) (at_ ys' j.toNat))=Zhj (Zci (cY boxes) data i.toNat) (at_ data i.toNat) (j-1).toNat++data.drop (i.toNat+1))∧(∀k:Nat,(j-1)≤(k:Int)→(k:Int)<i→(cY boxes) (at_ data i.toNat) (at_ (Zci (cY boxes) data i.toNat) k)<0)∧True from ⟨om,(by exact hst),(by exact hgn),trivial⟩) (by first|(show ((j-1).toNat:Nat)<j.toNat;omega)|(dsimp only;omega)))
      have hq:=h3
      rw [e1,e2] at hq
      have hio:=Zpk (c:=(cY boxes)) (xs:=data) (i:=i.toNat) (j:=j.toNat) om (fun k h1 h2=>hgt k om om) (Or.inr hq)
      rw [hio] at hin
      refine x_r [(2,.dec true),(14,.call [(true,.any),(true,.any),(true,.any)] true (I (cY boxes (at_ ys' j.toNat) (at_ ys' ((j-1).toNat))))),(15,.dec false)] [0,1,2,3,8,9,34] [7214] [.arr 7214,I a,I b,.fn 64 [.ptr false [Zae false boxes]],I i,I j,Bv false] [some (tAI ys')] [_,(0:Int)≤j∧j<(ys'.length:Int),j.toNat<ys'.length,inR .i64 (j-1),(0:Int)≤(j-1)∧(j-1)<(ys'.length:Int),(j-1).toNat<ys'.length,_∧True,_] ⟨h2,⟨om,om⟩,om,(Zaf om om),⟨om,om⟩,om,⟨(Zcs (at_ ys' j.toNat) (at_ ys' ((j-1).toNat)) boxes (by first|omega|exact hcl _ (Zbj om)) (by first|omega|exact hcl _ (Zbj om))),trivial⟩,h3,trivial⟩ (Zac (Zca rfl (Zcw (Zas ?_))))
      refine Zaw ?_
      refine Zat (Zbm 1 (Zac ?_))
      refine x_r [] [0,1,2,3,8] [7214] [.arr 7214,I a,I b,.fn 64 [.ptr false [Zae false boxes]],I (i+1)] [some (tAI ys')] [inR .i64 (i+1)] ⟨(Zaf om om),trivial⟩ ?_
      exact Zbu ((i+1),ys') rfl (show (1≤(i+1)∧((i+1)≤(data.length:Int)∨(i+1)=1))∧(ys'=Zci (cY boxes) data (min (i+1).toNat data.length)++data.drop (i+1).toNat)∧True from ⟨om,(by rw [hin,show (i+1).toNat=i.toNat+1 from by omega,show min (i.toNat+1) data.length=i.toNat+1 from by omega]),trivial⟩) (by first|(show (((data.length:Int)-(i+1)).toNat:Nat)<((data.length:Int)-i).toNat;omega)|(dsimp only;omega))
     have hio:=Zpk (c:=(cY boxes)) (xs:=data) (i:=i.toNat) (j:=j.toNat) om (fun k h1 h2=>hgt k om om) (Or.inl om)
     rw [hio] at hin
     refine x_r [(2,.dec false)] [0,1,2,3,8,9,34] [7214] [.arr 7214,I a,I b,.fn 64 [.ptr false [Zae false boxes]],I i,I j,Bv false] [some (tAI ys')] [_] ⟨h2,trivial⟩ (Zac (Zca rfl (Zcw (Zas ?_))))
     refine Zaw ?_
     refine Zat (Zbm 1 (Zac ?_))
     refine x_r [] [0,1,2,3,8] [7214] [.arr 7214,I a,I b,.fn 64 [.ptr false [Zae false boxes]],I (i+1)] [some (tAI ys')] [inR .i64 (i+1)] ⟨(Zaf om om),trivial⟩ ?_
     exact Zbu ((i+1),ys') rfl (show (1≤(i+1)∧((i+1)≤(data.length:Int)∨(i+1)=1))∧(ys'=Zci (cY boxes) data (min (i+1).toNat data.length)++data.drop (i+1).toNat)∧True from ⟨om,(by rw [hin,show (i+1).toNat=i.toNat+1 from by omega,show min (i.toNat+1) data.length=i.toNat+1 from by omega]),trivial⟩) (by first|(show (((data.length:Int)-(i+1)).toNat:Nat)<((data.length:Int)-i).toNat;omega)|(dsimp only;omega))
    have hyf:ys=Zci (cY boxes) data data.length:=by rw [hys,show min i.toNat data.length=data.length from by omega,List.drop_eq_nil_of_le om,List.append_nil]
    refine x_r [(2,.dec false)] [0,1,2,3,8,14] [7214] [.arr 7214,I a,I b,.fn 64 [.ptr false [Zae false boxes]],I i,Bv false] [some (tAI ys)] [_] ⟨h1,trivial⟩ (Zac (Zca rfl (Zcw (Zas ?_))))
    refine Zaw ?_
    refine Zat ?_
    refine Zhy ys (show (ys=Zci (cY boxes) data data.length)∧(True) from ⟨(by exact hyf),trivial⟩) (⟨.inl rfl,trivial⟩) (.tup []) (by kernel_rfl) (.inl rfl) (fun _=>rfl) (fun _=>(by simp [Zah,Zag]))
  obtain ⟨data',⟨hh0,_⟩,hc⟩:=hh
  exact ⟨data',hh0,hc⟩
theorem sYstb_ok (data:List Int) (n:Int) (boxes:List Box) (hb:n=(data.length:Int)) (hl:data.length<20) (hcl:∀x∈data,0≤x∧x<(boxes.length:Int)):∃(data':List Int),(data'=Zci (cY boxes) data data.length)∧Zao Try.prog 76 [.arr 7214,I n,.fn 64 [.ptr false [Zae false boxes]]] (Zab [(7214,tAI data)]) true (.tup []) (Zab [(7214,tAI data')]):=by
 have hh:∃r:(List Int),((r=Zci (cY boxes) data data.length)∧(True))∧Zao Try.prog 76 [.arr 7214,I n,.fn 64 [.ptr false [Zae false boxes]]] (Zab [(7214,tAI data)]) true (.tup []) (Zab [(7214,tAI r)]):=by
  refine Zcp (Φ:=fun r:(List Int)=>(r=Zci (cY boxes) data data.length)∧(True)) [(7214,tAI data)] (fun r=>[(7214,tAI r)]) (fn:=Try.f76) (nt:=63) Try.func76 rfl rfl (args:=[.arr 7214,I n,.fn 64 [.ptr false [Zae false boxes]]]) rfl (Zap (.inr trivial) (Zap (.inl ⟨rfl,trivial⟩) (Zap (.inl ⟨rfl,by simp [Zah,Zag,Zbo]⟩) Zco))) (res:=fun r=> .tup []) ?_
  refine xQ [] [0,1,2,6] [7214] [] trivial ?_
  refine xR [] [0,1,2,6,7,8] [7214] [.arr 7214,I n,.fn 64 [.ptr false [Zae false boxes]],I 20,I 0,I 20] [some (tAI data)] [] trivial (Zam (Zbg ?_))
  refine Zdn (X:=Int×Int×(List Int)) (fun x=>mkS [(0,.arr 7214),(1,I n),(2,.fn 64 [.ptr false [Zae false boxes]]),(6,I 20),(7,I x.1),(8,I x.2.1)] [(7214,tAI x.2.2)]) (fun x=>(x.1=0∧x.2.1=20)∧(x.2.2=data)∧True) (fun x=>(0:Nat)) (0,20,data) rfl (show ((0:Int)=0∧(20:Int)=20)∧(data=data)∧True from ⟨om,(by rfl),trivial⟩) (fun x hI=> ?_)
  obtain ⟨a,b,ys⟩:=x
  obtain ⟨hab,hyd,_⟩:(a=0∧b=20)∧(ys=data)∧True:=hI
  show XW _ _ _ _ (mkS [(0,.arr 7214),(1,I n),(2,.fn 64 [.ptr false [Zae false boxes]]),(6,I 20),(7,I a),(8,I b)] [(7214,tAI ys)]) _ _
  refine Zam ?_
  refine xR [(2,.dec false)] [0,1,2,6,7,8,13] [7214] [.arr 7214,I n,.fn 64 [.ptr false [Zae false boxes]],I 20,I a,I b,Bv false] [some (tAI ys)] [¬ (b≤n)] ⟨om,trivial⟩ (Zca rfl (Zcw (Zas ?_)))
  refine Zaw ?_
  refine Zat (Zac (Zam ?_))
  obtain ⟨data'_1,hx1_0,hc1⟩:=sYins_ok ys a n boxes (by first|omega|(subst_vars;omega)) (by first|omega|(subst_vars;omega)) (by first|exact hcl|(rw [hyd];exact hcl))
  refine x_r [(4,.lend [(7214,tAI ys,tAI data'_1)] [] [(true,.any),(true,.any),(true,.any),(true,.any)] true (.tup []))] [0,1,2,6] [7214] [.arr 7214,I n,.fn 64 [.ptr false [Zae false boxes]],I 20] [some (tAI data'_1)] [Zao Try.prog 84 [.arr 7214,I a,I n,.fn 64 [.ptr false [Zae false boxes]]] (Zab [(7214,tAI ys)]) true (.tup []) (Zab [(7214,tAI data'_1)])∧(((tAI ys:Ob)=tAI ys∨Zef Zdl true (tAI ys) (tAI ys))∧Zan false (tAI ys))∧True] ⟨⟨hc1,⟨.inl rfl,fun _ _=>Zrg false _⟩,trivial⟩,trivial⟩ (Zac (Zbg ?_))
  refine Zdn (X:=Int) (fun x=>mkS [(0,.arr 7214),(1,I n),(2,.fn 64 [.ptr false [Zae false boxes]]),(6,I x)] [(7214,tAI data'_1)]) (fun x=>(x=20)∧True) (fun x=>(0:Nat)) 20 rfl (show ((20:Int)=20)∧True from ⟨(by first|rfl|omega),trivial⟩) (fun x hI=> ?_)
  obtain ⟨blockSize,hxx⟩:∃blockSize:Int,blockSize=x:=⟨x,rfl⟩
  subst hxx
  obtain ⟨hbs,_⟩:(blockSize=20)∧True:=hI
  show XW _ _ _ _ (mkS [(0,.arr 7214),(1,I n),(2,.fn 64 [.ptr false [Zae false boxes]]),(6,I blockSize)] [(7214,tAI data'_1)]) _ _
  refine Zam ?_
  refine xR [(2,.dec false)] [0,1,2,6,30] [7214] [.arr 7214,I n,.fn 64 [.ptr false [Zae false boxes]],I blockSize,Bv false] [some (tAI data'_1)] [¬ (blockSize<n)] ⟨om,trivial⟩ (Zca rfl (Zcw (Zas ?_)))
  refine Zaw ?_
  refine Zat ?_
  refine Zhy data'_1 (show (data'_1=Zci (cY boxes) data data.length)∧(True) from ⟨(by first|assumption|(rw [hx1_0,hyd])),trivial⟩) (⟨.inl rfl,trivial⟩) (.tup []) (by kernel_rfl) (.inl rfl) (fun _=>rfl) (fun _=>(by simp [Zah,Zag]))
 obtain ⟨data',⟨hh0,_⟩,hc⟩:=hh
 exact ⟨data',hh0,hc⟩
theorem Zyd (data:List Int) (boxes:List Box) (hl:data.length<20) (hcl:∀x∈data,0≤x∧x<(boxes.length:Int)):∃(data':List Int),(data'=Zci (cY boxes) data data.length)∧Zao Try.prog 63 [.arr 7214,.fn 64 [.ptr false [Zae false boxes]]] (Zab [(7214,tAI data)]) true (.tup []) (Zab [(7214,tAI data')]):=by
 have hh:∃r:(List Int),((r=Zci (cY boxes) data data.length)∧(True))∧Zao Try.prog 63 [.arr 7214,.fn 64 [.ptr false [Zae false boxes]]] (Zab [(7214,tAI data)]) true (.tup []) (Zab [(7214,tAI r)]):=by
  refine Zcp (Φ:=fun r:(List Int)=>(r=Zci (cY boxes) data data.length)∧(True)) [(7214,tAI data)] (fun r=>[(7214,tAI r)]) (fn:=Try.f63) (nt:=9) Try.func63 rfl rfl (args:=[.arr 7214,.fn 64 [.ptr false [Zae false boxes]]]) rfl (Zap (.inr trivial) (Zap (.inl ⟨rfl,by simp [Zah,Zag,Zbo]⟩) Zco)) (res:=fun r=> .tup []) ?_
  obtain ⟨data'_1,hx1_0,hc1⟩:=sYstb_ok data (data.length:Int) boxes (by first|rfl|omega) om hcl
  refine x_r [(4,.lend [(7214,tAI data,tAI data'_1)] [] [(true,.any),(true,.any),(true,.any)] true (.tup []))] [] [7214] [] [some (tAI data'_1)] [Zao Try.prog 76 [.arr 7214,I (data.length:Int),.fn 64 [.ptr false [Zae false boxes]]] (Zab [(7214,tAI data)]) true (.tup []) (Zab [(7214,tAI data'_1)])∧(((tAI data:Ob)=tAI data∨Zef Zdl true (tAI data) (tAI data))∧Zan false (tAI data))∧True] ⟨⟨hc1,⟨.inl rfl,fun _ _=>Zrg false _⟩,trivial⟩,trivial⟩ ?_
  refine Zhy data'_1 (show (data'_1=Zci (cY boxes) data data.length)∧(True) from ⟨(by first|assumption|omega),trivial⟩) (⟨.inl rfl,trivial⟩) (.tup []) (by kernel_rfl) (.inl rfl) (fun _=>rfl) (fun _=>(by simp [Zah,Zag]))
 obtain ⟨data',⟨hh0,_⟩,hc⟩:=hh
 exact ⟨data',hh0,hc⟩
theorem Zvs (data:List Int) (boxes:List Box) (hl:data.length≤12∨data.length=60∧Zml (cY boxes) data) (hcl:∀x∈data,0≤x∧x<(boxes.length:Int)):∃(data':List Int),(data'=Zci (cY boxes) data data.length)∧Zao Try.prog 63 [.arr 7214,.fn 64 [.ptr false [Zae false boxes]]] (Zab [(7214,tAI data)]) true (.tup []) (Zab [(7214,tAI data')]):=by
 rcases hl with hl|⟨hl,hs⟩
 ·exact Zyd data boxes om hcl
 ·obtain ⟨d,h1,h2⟩:=Zvr data boxes hl hs hcl
  exact ⟨d,by rw [h1,Zpl hs],h2⟩
theorem Zlx (data:List Int) (a:Int) (b:Int) (sw:Int) (boxes:List Box) (hb:0≤a∧a<b∧b<(data.length:Int)) (hl:data.length≤1000) (hsd:Zml (cL boxes) data) (hcl:∀x∈data,0≤x∧x<(boxes.length:Int)):Con Try.prog 102 [slI false data,I a,I b,.ptr false [I sw],.fn 80 [.ptr false [Zae false boxes]]] true (.tup [I a,I b]):=by
 refine Zda (fn:=Try.f102) (nt:=32) Try.func102 rfl rfl rfl rfl (by simp [Zag,Zah,Zbo,Zft]) fun B hB=> ?_
 refine Zbt (x:=slI false data) 0 rfl (fun len_data=> ?_)
 simp [Zdb,Zfv,cI,fI,slI] at len_data
 refine aQ [] [0,1,2,3,4] [] [] hB trivial (Zai ?_)
 refine aQ [(9,.call [(true,.any),(true,.any),(true,.any)] true (I (cL boxes (at_ data b.toNat) (at_ data a.toNat)))),(10,.dec false)] [1,2,3,22] [] [(0:Int)≤b∧b<(data.length:Int),(0:Int)≤a∧a<(data.length:Int),_∧True,¬ ((cL boxes (at_ data b.toNat) (at_ data a.toNat))<0)] hB ⟨⟨om,om⟩,⟨om,om⟩,⟨(Zcy (at_ data b.toNat) (at_ data a.toNat) boxes (by first|omega|exact hcl _ (Zbj om)) (by first|omega|exact hcl _ (Zbj om))),trivial⟩,(Zlv hsd om om),trivial⟩ (Zbw (Zaq (Zad ?_)))
 refine aR [] [10,11] [] [I a,I b] [] [] hB trivial (Zaz ?_)
 refine Zax hB (.tup [I a,I b]) (by kernel_rfl) (.inl rfl) rfl (fun _=>(by simp [Zah,Zag]))
theorem Zly (data:List Int) (a:Int) (b:Int) (c:Int) (sw:Int) (boxes:List Box) (hb:0≤a∧a<b∧b<c∧c<(data.length:Int)) (hl:data.length≤1000) (hsd:Zml (cL boxes) data) (hcl:∀x∈data,0≤x∧x<(boxes.length:Int)):Con Try.prog 100 [slI false data,I a,I b,I c,.ptr false [I sw],.fn 80 [.ptr false [Zae false boxes]]] true (I b):=by
 refine Zda (fn:=Try.f100) (nt:=41) Try.func100 rfl rfl rfl rfl (by simp [Zag,Zah,Zbo,Zft]) fun B hB=> ?_
 refine Zbt (x:=slI false data) 0 rfl (fun len_data=> ?_)
 simp [Zdb,Zfv,cI,fI,slI] at len_data
 refine aQ [] [0,1,2,3,4,5] [] [] hB trivial ?_
 refine aQ [(5,.call [(true,.any),(true,.any),(true,.any),(true,.any),(true,.any)] true (.tup [I a,I b]))] [0,1,2,3,4,5] [] [_∧True] hB ⟨⟨(Zlx data a b sw boxes om om hsd hcl),trivial⟩,trivial⟩ ?_
 refine aQ [(5,.call [(true,.any),(true,.any),(true,.any),(true,.any),(true,.any)] true (.tup [I b,I c]))] [0,1,2,4,5] [] [_∧True] hB ⟨⟨(Zlx data b c sw boxes om om hsd hcl),trivial⟩,trivial⟩ ?_
 refine aR [(5,.call [(true,.any),(true,.any),(true,.any),(true,.any),(true,.any)] true (.tup [I a,I b]))] [2] [] [I b] [] [_∧True] hB ⟨⟨(Zlx data a b sw boxes om om hsd hcl),trivial⟩,trivial⟩ ?_
 refine aR [] [12] [] [I b] [] [] hB trivial (Zaz ?_)
 refine Zax hB (I b) (by kernel_rfl) (.inl rfl) rfl (fun _=>trivial)
theorem Zlz (data:List Int) (a:Int) (sw:Int) (boxes:List Box) (hb:1≤a∧a+1<(data.length:Int)) (hl:data.length≤1000) (hsd:Zml (cL boxes) data) (hcl:∀x∈data,0≤x∧x<(boxes.length:Int)):Con Try.prog 99 [slI false data,I a,.ptr false [I sw],.fn 80 [.ptr false [Zae false boxes]]] true (I a):=by
 refine Zda (fn:=Try.f99) (nt:=18) Try.func99 rfl rfl rfl rfl (by simp [Zag,Zah,Zbo,Zft]) fun B hB=> ?_
 refine Zbt (x:=slI false data) 0 rfl (fun len_data=> ?_)
 simp [Zdb,Zfv,cI,fI,slI] at len_data
 refine aQ [] [0,1,2,3] [] [] hB trivial ?_
 refine aR [(8,.call [(true,.any),(true,.any),(true,.any),(true,.any),(true,.any),(true,.any)] true (I a))] [8] [] [I a] [] [inR .i64 (a-1),inR .i64 (a+1),_∧True] hB ⟨(Zaf om om),(Zaf om om),⟨(Zly data (a-1) a (a+1) sw boxes om om hsd hcl),trivial⟩,trivial⟩ (Zaz ?_)
 refine Zax hB (I a) (by kernel_rfl) (.inl rfl) rfl (fun _=>trivial)
theorem Zye (data:List Int) (a:Int) (b:Int) (boxes:List Box) (hb:a=0∧b=60∧(data.length:Int)=60) (hl:data.length≤1000) (hsd:Zml (cL boxes) data) (hcl:∀x∈data,0≤x∧x<(boxes.length:Int)):Con Try.prog 88 [slI false data,I a,I b,.fn 80 [.ptr false [Zae false boxes]]] true (.tup [I 30,I 1]):=by
  refine Zda (fn:=Try.f88) (nt:=63) Try.func88 rfl rfl rfl rfl (by simp [Zag,Zah,Zbo,Zft]) fun B hB=> ?_
  refine Zbt (x:=slI false data) 0 rfl (fun len_data=> ?_)
  simp [Zdb,Zfv,cI,fI,slI] at len_data
  refine aQ [] [0,1,2,3] [] [] hB trivial ?_
  refine aQ [] [0,1,3,10] [] [inR .i64 (b-a)] hB ⟨(Zaf om om),trivial⟩ ?_
  refine aQ [(0,.new 11)] [0,1,3,10,11] [11] [] hB trivial ?_
  refine aR [(2,.nn)] [0,1,3,10,11,12] [11] [slI false data,I a,.fn 80 [.ptr false [Zae false boxes]],I (b-a),.ref 11 0,I (a+(((b-a)/4)*1))] [some (.box [I 0])] [(0:Int)≤(b-a)∧(0:Int)<4∧inR .i64 (b-a),inR .i64 (((b-a)/4)*1),inR .i64 (a+(((b-a)/4)*1))] hB ⟨⟨om,om,(Zaf om om)⟩,(Zaf om om),(Zaf om om),trivial⟩ ?_
  refine aQ [(2,.nn)] [0,1,3,10,11,12,13] [11] [(0:Int)≤(b-a)∧(0:Int)<4∧inR .i64 (b-a),inR .i64 (((b-a)/4)*2),inR .i64 (a+(((b-a)/4)*2))] hB ⟨⟨om,om,(Zaf om om)⟩,(Zaf om om),(Zaf om om),trivial⟩ ?_
  refine aQ [(2,.nn)] [0,3,10,11,12,13,14] [11] [(0:Int)≤(b-a)∧(0:Int)<4∧inR .i64 (b-a),inR .i64 (((b-a)/4)*3),inR .i64 (a+(((b-a)/4)*3))] hB ⟨⟨om,om,(Zaf om om)⟩,(Zaf om om),(Zaf om om),trivial⟩ (Zai (Zai ?_))
  by_cases h1:8≤(b-a)
  ·refine Zbz [(1,.dec true)] [0,3,10,11,12,13,14,34] [11] [_] hB ⟨h1,trivial⟩ (Zad (Zcf (Zai (Zai ?_))))
   by_cases h2:50≤(b-a)
   ·refine Zei [(1,.dec true)] [0,3,11,12,13,14,36] [11] [slI false data,.fn 80 [.ptr false [Zae false boxes]],.ref 11 0,I (a+(((b-a)/4)*1)),I (a+(((b-a)/4)*2)),I (a+(((b-a)/4)*3)),Bv true] [some (.box [I 0])] [_] hB ⟨h2,trivial⟩ (Zad (Zhx rfl ?_))
    refine aQ [(3,.call [(true,.any),(true,.any),(false,.ptr false [I 0]),(true,.any)] true (I (a+(((b-a)/4)*1))))] [0,3,11,12,13,14] [11] [_∧((false=true→true=true)∧AV.idsL [I 0]=[]∧(Zmp (I 0)=Zmp (I 0))∧([]:List AV)=[])∧True] hB ⟨⟨(Zlz data (a+(((b-a)/4)*1)) 0 boxes om om hsd hcl),⟨(fun h=>by cases h),rfl,⟨rfl,rfl⟩⟩,trivial⟩,trivial⟩ ?_
    refine aQ [(3,.call [(true,.any),(true,.any),(false,.ptr false [I 0]),(true,.any)] true (I (a+(((b-a)/4)*2))))] [0,3,11,12,13,14] [11] [_∧((false=true→true=true)∧AV.idsL [I 0]=[]∧(Zmp (I 0)=Zmp (I 0))∧([]:List AV)=[])∧True] hB ⟨⟨(Zlz data (a+(((b-a)/4)*2)) 0 boxes om om hsd hcl),⟨(fun h=>by cases h),rfl,⟨rfl,rfl⟩⟩,trivial⟩,trivial⟩ ?_
    refine Zbz [(3,.call [(true,.any),(true,.any),(false,.ptr false [I 0]),(true,.any)] true (I (a+(((b-a)/4)*3))))] [0,3,11,12,13,14] [11] [_∧((false=true→true=true)∧AV.idsL [I 0]=[]∧(Zmp (I 0)=Zmp (I 0))∧([]:List AV)=[])∧True] hB ⟨⟨(Zlz data (a+(((b-a)/4)*3)) 0 boxes om om hsd hcl),⟨(fun h=>by cases h),rfl,⟨rfl,rfl⟩⟩,trivial⟩,trivial⟩ (Zad ?_)
    refine Zei [(5,.call [(true,.any),(true,.any),(true,.any),(true,.any),(false,.ptr false [I 0]),(true,.any)] true (I (a+(((b-a)/4)*2))))] [11,13] [11] [.ref 11 0,I (a+(((b-a)/4)*2))] [some (.box [I 0])] [_∧((false=true→true=true)∧AV.idsL [I 0]=[]∧(Zmp (I 0)=Zmp (I 0))∧([]:List AV)=[])∧True] hB ⟨⟨(Zly data (a+(((b-a)/4)*1)) (a+(((b-a)/4)*2)) (a+(((b-a)/4)*3)) 0 boxes om om hsd hcl),⟨(fun h=>by cases h),rfl,⟨rfl,rfl⟩⟩,trivial⟩,trivial⟩ (Zad ?_)
    refine aQ [] [13,55] [] [] hB trivial (Zar ?_)
    refine aQ [(0,.dec true)] [13,55,57] [] [(0:Int)=0] hB ⟨(by decide),trivial⟩ (Zcf ?_)
    refine aR [] [8,9] [] [I (a+(((b-a)/4)*2)),I 1] [] [] hB trivial (Zaz (Zau ?_))
    refine Zax hB (.tup [I (a+(((b-a)/4)*2)),I 1]) (by kernel_rfl) (.inl (by first|rfl|(congr 2;omega)|(simp;omega))) rfl (fun _=>(by simp [Zah,Zag]))
   refine Zbz [(1,.dec false)] [0,3,11,12,13,14,36] [11] [_] hB ⟨h2,trivial⟩ (Zad (Zbw (Zaq (Zad ?_))))
   refine Zbz [(5,.call [(true,.any),(true,.any),(true,.any),(true,.any),(false,.ptr false [I 0]),(true,.any)] true (I (a+(((b-a)/4)*2))))] [11,13] [11] [_∧((false=true→true=true)∧AV.idsL [I 0]=[]∧(Zmp (I 0)=Zmp (I 0))∧([]:List AV)=[])∧True] hB ⟨⟨(Zly data (a+(((b-a)/4)*1)) (a+(((b-a)/4)*2)) (a+(((b-a)/4)*3)) 0 boxes om om hsd hcl),⟨(fun h=>by cases h),rfl,⟨rfl,rfl⟩⟩,trivial⟩,trivial⟩ (Zad ?_)
   refine aQ [] [13,55] [] [] hB trivial (Zar ?_)
   refine aR [(0,.dec true)] [13,55,57] [] [I (a+(((b-a)/4)*2)),I 0,Bv true] [] [(0:Int)=0] hB ⟨(by decide),trivial⟩ (Zhx rfl ?_)
   refine aR [] [8,9] [] [I (a+(((b-a)/4)*2)),I 1] [] [] hB trivial (Zaz (Zau ?_))
   refine Zax hB (.tup [I (a+(((b-a)/4)*2)),I 1]) (by kernel_rfl) (.inl (by first|rfl|(congr 2;omega)|(simp;omega))) rfl (fun _=>(by simp [Zah,Zag]))
  refine Zbz [(1,.dec false)] [0,3,10,11,12,13,14,34] [11] [_] hB ⟨h1,trivial⟩ (Zad (Zbw (Zaq (Zad ?_))))
  refine aQ [] [13,55] [] [] hB trivial (Zar ?_)
  refine aQ [(0,.dec true)] [13,55,57] [] [(0:Int)=0] hB ⟨(by decide),trivial⟩ (Zcf ?_)
  refine aR [] [8,9] [] [I (a+(((b-a)/4)*2)),I 1] [] [] hB trivial (Zaz (Zau ?_))
  refine Zax hB (.tup [I (a+(((b-a)/4)*2)),I 1]) (by kernel_rfl) (.inl (by first|rfl|(congr 2;omega)|(simp;omega))) rfl (fun _=>(by simp [Zah,Zag]))
theorem Zyf (data:List Int) (a:Int) (b:Int) (boxes:List Box) (hb:0≤a∧a<b∧b≤(data.length:Int)) (hl:data.length≤1000) (hsd:Zml (cL boxes) data) (hcl:∀x∈data,0≤x∧x<(boxes.length:Int)):Con Try.prog 90 [slI false data,I a,I b,.fn 80 [.ptr false [Zae false boxes]]] true (Bv true):=by
  refine Zda (fn:=Try.f90) (nt:=141) Try.func90 rfl rfl rfl rfl (by simp [Zag,Zah,Zbo,Zft]) fun B hB=> ?_
  refine Zbt (x:=slI false data) 0 rfl (fun len_data=> ?_)
  simp [Zdb,Zfv,cI,fI,slI] at len_data
  refine aQ [] [0,1,2,3] [] [] hB trivial ?_
  refine aQ [] [0,1,2,3,9] [] [inR .i64 (a+1)] hB ⟨(Zaf om om),trivial⟩ (Zai ?_)
  refine aR [] [0,1,2,3,9,10] [] [slI false data,I a,I b,.fn 80 [.ptr false [Zae false boxes]],I (a+1),I 0] [] [] hB trivial (Zar ?_)
  refine Zcg (fun gn gσ=>∃(i:Int) (j:Int),gn=(0:Nat)∧(j=0∧i=a+1)∧gσ=mkS [(0,slI false data),(1,I a),(2,I b),(3,.fn 80 [.ptr false [Zae false boxes]]),(9,I i),(10,I j)] []) ((0:Nat)) ⟨(a+1),0,rfl,om,rfl⟩ (fun gn gσ hI=> ?_)
  obtain ⟨i,j,rfl,hj0,rfl⟩:=hI
  refine Zai ?_
  refine aR [(1,.dec true)] [0,1,2,3,9,10,16] [] [slI false data,I a,I b,.fn 80 [.ptr false [Zae false boxes]],I i,I j,Bv true] [] [j<5] hB ⟨om,trivial⟩ (Zhx rfl (Zaq (Zad (Zai (Zar (Zai (Zar ?_)))))))
  refine Zwd hB [] (T:=[(0,slI false data),(1,I a),(2,I b),(3,.fn 80 [.ptr false [Zae false boxes]]),(9,I i),(10,I j)]) (O:=[]) rfl (⟨.inl rfl,.inl rfl,.inl rfl,.inl rfl,.inl rfl,.inl rfl,trivial⟩) (trivial) ?_
  refine Zcg (fun gn gσ=>∃(i':Int),gn=(b-i').toNat∧(a+1≤i'∧i'≤b)∧gσ=mkS [(0,slI false data),(1,I a),(2,I b),(3,.fn 80 [.ptr false [Zae false boxes]]),(9,I i'),(10,I j)] []) ((b-i).toNat) ⟨i,rfl,om,rfl⟩ (fun gn gσ hI=> ?_)
  obtain ⟨i',rfl,hj1,rfl⟩:=hI
  refine Zai (Zai ?_)
  by_cases h1:i'<b
  ·refine Zbz [(2,.dec true),(14,.call [(true,.any),(true,.any),(true,.any)] true (I (cL boxes (at_ data i'.toNat) (at_ data ((i'-1).toNat))))),(15,.dec false)] [0,1,2,3,9,10,36] [] [_,(0:Int)≤i'∧i'<(data.length:Int),inR .i64 (i'-1),(0:Int)≤(i'-1)∧(i'-1)<(data.length:Int),_∧True,¬ ((cL boxes (at_ data i'.toNat) (at_ data ((i'-1).toNat)))<0)] hB ⟨h1,⟨om,om⟩,(Zaf om om),⟨om,om⟩,⟨(Zcy (at_ data i'.toNat) (at_ data ((i'-1).toNat)) boxes (by first|omega|exact hcl _ (Zbj om)) (by first|omega|exact hcl _ (Zbj om))),trivial⟩,(Zlv hsd om om),trivial⟩ (Zad (Zcf (Zaq (Zad (Zar ?_)))))
   refine Zei [] [0,1,2,3,9,10] [] [slI false data,I a,I b,.fn 80 [.ptr false [Zae false boxes]],I (i'+1),I j] [] [inR .i64 (i'+1)] hB ⟨(Zaf om om),trivial⟩ (Zbq 3 ?_)
   exact Zbr _ om ⟨(i'+1),rfl,om,rfl⟩
  refine Zbz [(2,.dec false)] [0,1,2,3,9,10,36] [] [_] hB ⟨h1,trivial⟩ (Zad (Zbw (Zcl (Zaj (Zaj (Zav (Zad (Zai ?_))))))))
  refine aQ [(2,.dec true)] [0,1,2,3,9,10,41] [] [i'=b] hB ⟨om,trivial⟩ (Zcf ?_)
  refine aR [] [8] [] [Bv true] [] [] hB trivial (Zaz ?_)
  refine Zal (Zau (Zal (Zal (Zau (Zal ?_)))))
  refine Zax hB (Bv true) (by kernel_rfl) (.inl rfl) rfl (fun _=>trivial)
theorem Zyg (data:List Int) (a:Int) (b:Int) (limit:Int) (boxes:List Box) (hb:a=0∧b=60∧(data.length:Int)=60∧1≤limit) (hl:data.length≤1000) (hsd:Zml (cL boxes) data) (hcl:∀x∈data,0≤x∧x<(boxes.length:Int)):Con Try.prog 78 [slI false data,I a,I b,I limit,.fn 80 [.ptr false [Zae false boxes]]] true (.tup []):=by
  refine Zda (fn:=Try.f78) (nt:=148) Try.func78 rfl rfl rfl rfl (by simp [Zag,Zah,Zbo,Zft]) fun B hB=> ?_
  refine Zbt (x:=slI false data) 0 rfl (fun len_data=> ?_)
  simp [Zdb,Zfv,cI,fI,slI] at len_data
  refine aQ [] [0,1,2,3,4,10] [] [] hB trivial ?_
  refine aR [] [0,1,2,3,4,10,11] [] [slI false data,I a,I b,I limit,.fn 80 [.ptr false [Zae false boxes]],Bv true,Bv true] [] [] hB trivial (Zar ?_)
  refine Zcg (fun gn gσ=>∃(a':Int) (b':Int) (limit':Int) (wasBalanced:Bool) (wasPartitioned:Bool),gn=(0:Nat)∧(a'=0∧b'=60∧1≤limit')∧(wasBalanced=true)∧(wasPartitioned=true)∧gσ=mkS [(0,slI false data),(1,I a'),(2,I b'),(3,I limit'),(4,.fn 80 [.ptr false [Zae false boxes]]),(10,Bv wasBalanced),(11,Bv wasPartitioned)] []) ((0:Nat)) ⟨a,b,limit,true,true,rfl,om,(by rfl),(by rfl),rfl⟩ (fun gn gσ hI=> ?_)
  obtain ⟨a',b',limit',wasBalanced,wasPartitioned,rfl,hab,hwb,hwp,rfl⟩:=hI
  refine Zar ?_
  refine aQ [] [0,1,2,3,4,10,11,12] [] [inR .i64 (b'-a')] hB ⟨(Zaf om om),trivial⟩ (Zai ?_)
  refine aQ [(1,.dec false)] [0,1,2,3,4,10,11,12,25] [] [¬ ((b'-a')≤12)] hB ⟨om,trivial⟩ (Zbw (Zaq (Zad (Zai ?_))))
  refine aQ [(1,.dec false)] [0,1,2,3,4,10,11,12,32] [] [¬ (limit'=0)] hB ⟨om,trivial⟩ (Zbw (Zaq (Zad (Zai (Zai ?_)))))
  obtain rfl:wasBalanced=true:=hwb
  refine Zei [] [0,1,2,3,4,10,11,12,39] [] [slI false data,I a',I b',I limit',.fn 80 [.ptr false [Zae false boxes]],Bv true,Bv wasPartitioned,I (b'-a'),Bv false] [] [] hB trivial (Zad (Zds rfl (Zaq (Zad ?_))))
  refine aQ [(4,.call [(true,.any),(true,.any),(true,.any),(true,.any)] true (.tup [I 30,I 1]))] [0,1,2,3,4,10,11,12,13,14] [] [_∧True] hB ⟨⟨(Zye data a' b' boxes om om hsd hcl),trivial⟩,trivial⟩ (Zai ?_)
  refine aQ [(1,.dec false)] [0,1,2,3,4,10,11,12,13,14,56] [] [¬ ((1:Int)=2)] hB ⟨(by decide),trivial⟩ (Zbw (Zaq (Zad (Zai (Zai ?_)))))
  rcases Bool.eq_false_or_eq_true wasPartitioned with h1|h1
  ·subst h1
   refine Zbz [(6,.dec true)] [0,1,2,3,4,10,11,12,13,75] [] [(1:Int)=1] hB ⟨(by decide),trivial⟩ (Zad (Zcf ?_))
   refine aR [(4,.call [(true,.any),(true,.any),(true,.any),(true,.any)] true (Bv true))] [0,1,2,3,4,10,11,12,13,80] [] [slI false data,I a',I b',I limit',.fn 80 [.ptr false [Zae false boxes]],Bv true,Bv true,I (b'-a'),I 30,Bv true] [] [_∧True] hB ⟨⟨(Zyf data a' b' boxes om om hsd hcl),trivial⟩,trivial⟩ (Zhx rfl (Zaz ?_))
   refine Zal (Zau (Zal (Zau ?_)))
   refine Zax hB (.tup []) (by kernel_rfl) (.inl rfl) rfl (fun _=>(by simp [Zah,Zag]))
  exact Bool.noConfusion (hwp.symm.trans (by assumption))
theorem Zvt (data:List Int) (boxes:List Box) (hl:data.length=60) (hsd:Zml (cL boxes) data) (hcl:∀x∈data,0≤x∧x<(boxes.length:Int)):∃(data':List Int),(data'=data)∧Zao Try.prog 66 [.arr 7214,.fn 80 [.ptr false [Zae false boxes]]] (Zab [(7214,tAI data)]) true (.tup []) (Zab [(7214,tAI data')]):=by
 have hh:∃r:(List Int),((r=data)∧(True))∧Zao Try.prog 66 [.arr 7214,.fn 80 [.ptr false [Zae false boxes]]] (Zab [(7214,tAI data)]) true (.tup []) (Zab [(7214,tAI r)]):=by
  refine Zcp (Φ:=fun r:(List Int)=>(r=data)∧(True)) [(7214,tAI data)] (fun r=>[(7214,tAI r)]) (fn:=Try.f66) (nt:=14) Try.func66 rfl rfl (args:=[.arr 7214,.fn 80 [.ptr false [Zae false boxes]]]) rfl (Zap (.inr trivial) (Zap (.inl ⟨rfl,by simp [Zah,Zag,Zbo]⟩) Zco)) (res:=fun r=> .tup []) ?_
  refine xQ [] [0,1,4] [7214] [] trivial ?_
  refine x_r [(4,.call [(true,.any)] true (I ((Lib.bitLen (data.length:Int).toNat:Nat):Int))),(6,.call [(false,slI false data),(true,.any),(true,.any),(true,.any),(true,.any)] true (.tup []))] [] [7214] [] [some (tAI data)] [inR .u64 (data.length:Int),_∧True,_∧((false=true→true=true)∧1=1∧data.length=data.length∧∀i_,i_<data.length→(fI data) i_=(fI data) i_∨(AV.idsL ((fI data) i_)=[]∧leL (fun _=>none) false ((fI data) i_) ((fI data) i_)))∧True] ⟨(Zfr om om),⟨(Zyh (data.length:Int) om),trivial⟩,⟨(Zyg data 0 (data.length:Int) ((Lib.bitLen (data.length:Int).toNat:Nat):Int) boxes (by have e_:Lib.bitLen ((data.length:Int).toNat)=6:=(by rw [show (data.length:Int).toNat=60 from by omega];rfl);omega) om hsd hcl),⟨(fun h=>by cases h),rfl,rfl,fun i _=> .inl rfl⟩,trivial⟩,trivial⟩ ?_
  refine Zhy data (show (data=data)∧(True) from ⟨(by first|rfl|assumption),trivial⟩) (⟨.inl rfl,trivial⟩) (.tup []) (by kernel_rfl) (.inl rfl) (fun _=>rfl) (fun _=>(by simp [Zah,Zag]))
 obtain ⟨data',⟨hh0,_⟩,hc⟩:=hh
 exact ⟨data',hh0,hc⟩
theorem sLins_ok (data:List Int) (a:Int) (b:Int) (boxes:List Box) (hb:a=0∧b=(data.length:Int)) (hl:data.length<20) (hcl:∀x∈data,0≤x∧x<(boxes.length:Int)):∃(data':List Int),(data'=Zci (cL boxes) data data.length)∧Zao Try.prog 84 [.arr 7214,I a,I b,.fn 80 [.ptr false [Zae false boxes]]] (Zab [(7214,tAI data)]) true (.tup []) (Zab [(7214,tAI data')]):=by
  have hh:∃r:(List Int),((r=Zci (cL boxes) data data.length)∧(True))∧Zao Try.prog 84 [.arr 7214,I a,I b,.fn 80 [.ptr false [Zae false boxes]]] (Zab [(7214,tAI data)]) true (.tup []) (Zab [(7214,tAI r)]):=by
    refine Zcp (Φ:=fun r:(List Int)=>(r=Zci (cL boxes) data data.length)∧(True)) [(7214,tAI data)] (fun r=>[(7214,tAI r)]) (fn:=Try.f84) (nt:=53) Try.func84 rfl rfl (args:=[.arr 7214,I a,I b,.fn 80 [.ptr false [Zae false boxes]]]) rfl (Zap (.inr trivial) (Zap (.inl ⟨rfl,trivial⟩) (Zap (.inl ⟨rfl,trivial⟩) (Zap (.inl ⟨rfl,by simp [Zah,Zag,Zbo]⟩) Zco)))) (res:=fun r=> .tup []) ?_
    refine xR [] [0,1,2,3,8] [7214] [.arr 7214,I a,I b,.fn 80 [.ptr false [Zae false boxes]],I (a+1)] [some (tAI data)] [inR .i64 (a+1)] ⟨(Zaf om om),trivial⟩ (Zbg ?_)
    refine Zdn (X:=Int×(List Int)) (fun x=>mkS [(0,.arr 7214),(1,I a),(2,I b),(3,.fn 80 [.ptr false [Zae false boxes]]),(8,I x.1)] [(7214,tAI x.2)]) (fun x=>(1≤x.1∧(x.1≤(data.length:Int)∨x.1=1))∧(x.2=Zci (cL boxes) data (min x.1.toNat data.length)++data.drop x.1.toNat)∧True) (fun x=>((data.length:Int)-x.1).toNat) ((a+1),data) rfl (show (1≤(a+1)∧((a+1)≤(data.length:Int)∨(a+1)=1))∧(data=Zci (cL boxes) data (min (a+1).toNat data.length)++data.drop (a+1).toNat)∧True from ⟨om,(by first|exact Ziy _ _|(rw [show (a+1).toNat=1 from by omega];exact Ziy _ _)),trivial⟩) (fun x hI=> ?_)
    obtain ⟨i,ys⟩:=x
    obtain ⟨hi0,hys,_⟩:(1≤i∧(i≤(data.length:Int)∨i=1))∧(ys=Zci (cL boxes) data (min i.toNat data.length)++data.drop i.toNat)∧True:=hI
    show XW _ _ _ _ (mkS [(0,.arr 7214),(1,I a),(2,I b),(3,.fn 80 [.ptr false [Zae false boxes]]),(8,I i)] [(7214,tAI ys)]) _ _
    refine Zam (Zam ?_)
    by_cases h1:i<b
    ·have hi:i.toNat<data.length:=by omega
     have hmi:min i.toNat data.length=i.toNat:=by omega
     rw [hmi,iso_in hi] at hys
     have hpl:=Zem (cL boxes) data i.toNat
     have hyl:ys.length=data.length:=by rw [hys,List.length_append,Zgj om,List.length_drop,hpl];omega
     refine x_q [(2,.dec true)] [0,1,2,3,8,14] [7214] [_] ⟨h1,trivial⟩ (Zac (Zel (Zbn (Zac (Zam (Zbg ?_))))))
     refine xR [] [0,1,2,3,8,9] [7214] [.arr 7214,I a,I b,.fn 80 [.ptr false [Zae false boxes]],I i,I i] [some (tAI ys)] [] trivial (Zbg ?_)
     refine Zdn (X:=Int×(List Int)) (fun x=>mkS [(0,.arr 7214),(1,I a),(2,I b),(3,.fn 80 [.ptr false [Zae false boxes]]),(8,I i),(9,I x.1)] [(7214,tAI x.2)]) (fun x=>(0≤x.1∧x.1≤i)∧(x.2=Zhj (Zci (cL boxes) data i.toNat) (at_ data i.toNat) x.1.toNat++data.drop (i.toNat+1))∧(∀k:Nat,x.1≤(k:Int)→(k:Int)<i→(cL boxes) (at_ data i.toNat) (at_ (Zci (cL boxes) data i.toNat) k)<0)∧True) (fun x=>x.1.toNat) (i,ys) rfl (show (0≤i∧i≤i)∧(ys=Zhj (Zci (cL boxes) data i.toNat) (at_ data i.toNat) i.toNat++data.drop (i.toNat+1))∧(∀k:Nat,i≤(k:Int)→(k:Int)<i→(cL boxes) (at_ data i.toNat) (at_ (Zci (cL boxes) data i.toNat) k)<0)∧True from ⟨om,(by first|exact hys|(rw [hys];done)),(by intro k h1 h2;omega),trivial⟩) (fun x hI=> ?_)
     obtain ⟨j,ys'⟩:=x
     obtain ⟨hj0,hin,hgt,_⟩:(0≤j∧j≤i)∧(ys'=Zhj (Zci (cL boxes) data i.toNat) (at_ data i.toNat) j.toNat++data.drop (i.toNat+1))∧(∀k:Nat,j≤(k:Int)→(k:Int)<i→(cL boxes) (at_ data i.toNat) (at_ (Zci (cL boxes) data i.toNat) k)<0)∧True:=hI
     show XW _ _ _ _ (mkS [(0,.arr 7214),(1,I a),(2,I b),(3,.fn 80 [.ptr false [Zae false boxes]]),(8,I i),(9,I j)] [(7214,tAI ys')]) _ _
     refine Zam (Zam ?_)
     by_cases h2:a<j
     ·have hyl':ys'.length=data.length:=by rw [hin,List.length_append,Zgj om,List.length_drop,hpl];omega
      have e1:at_ ys' j.toNat=(at_ data i.toNat):=by rw [hin];exact Zyc om
      have e2:at_ ys' (j-1).toNat=at_ (Zci (cL boxes) data i.toNat) (j.toNat-1):=by rw [hin,Ziz om om];congr 1;omega
      have hce1:=hcl _ (Zbj hi)
      rw [←e1] at hce1
      have hce2:=Zlw (c:=(cL boxes)) hcl i.toNat om _ (Zbj (xs:=(Zci (cL boxes) data i.toNat)) (i:=j.toNat-1) om)
      rw [←e2] at hce2
      by_cases h3:(cL boxes (at_ ys' j.toNat) (at_ ys' ((j-1).toNat)))<0
      ·have hq:=h3
       rw [e1,e2] at hq
       have hst:(ys'.set j.toNat (at_ ys' (j-1).toNat)).set (j-1).toNat (at_ ys' j.toNat)=Zhj (Zci (cL boxes) data i.toNat) (at_ data i.toNat) (j-1).toNat++data.drop (i.toNat+1):=by have q:=Zuf (p:=(Zci (cL boxes) data i.toNat)) (x:=(at_ data i.toNat)) (r:=data.drop (i.toNat+1)) (j:=(j-1).toNat) om;rw [show (j-1).toNat+1=j.toNat from by omega] at q;rw [e1,e2,hin,←q,show j.toNat-1=(j-1).toNat from by omega]
       have hgn:∀k:Nat,j-1≤(k:Int)→(k:Int)<i→(cL boxes) (at_ data i.toNat) (at_ (Zci (cL boxes) data i.toNat) k)<0:=fun k h1 h2=>by by_cases e:(k:Int)=j-1;(rw [show k=j.toNat-1 from by omega];exact hq);exact hgt k om h2
       refine x_q [(2,.dec true),(14,.call [(true,.any),(true,.any),(true,.any)] true (I (cL boxes (at_ ys' j.toNat) (at_ ys' ((j-1).toNat))))),(15,.dec true)] [0,1,2,3,8,9,34] [7214] [_,(0:Int)≤j∧j<(ys'.length:Int),j.toNat<ys'.length,inR .i64 (j-1),(0:Int)≤(j-1)∧(j-1)<(ys'.length:Int),(j-1).toNat<ys'.length,_∧True,_] ⟨h2,⟨om,om⟩,om,(Zaf om om),⟨om,om⟩,om,⟨(Zcy (at_ ys' j.toNat) (at_ ys' ((j-1).toNat)) boxes (by first|omega|exact hcl _ (Zbj om)) (by first|omega|exact hcl _ (Zbj om))),trivial⟩,h3,trivial⟩ (Zac (Zel (Zbn (Zac (Zam (Zbg ?_))))))
       refine x_q [] [0,1,2,3,8,9] [7214] [inR .i64 (j-1),inR .i64 (j-1),(0:Int)≤(j-1)∧(j-1)<(ys'.length:Int),(j-1).toNat<ys'.length,(0:Int)≤j∧j<(ys'.length:Int),j.toNat<ys'.length,(0:Int)≤j∧j<(ys'.length:Int),j.toNat<ys'.length,(0:Int)≤(j-1)∧(j-1)<(ys'.length:Int),(j-1).toNat<ys'.length] ⟨(Zaf om om),(Zaf om om),⟨om,om⟩,om,⟨om,om⟩,om,⟨om,om⟩,om,⟨om,om⟩,om,trivial⟩ (Zbm 3 (Zac ?_))
       refine x_r [] [0,1,2,3,8,9] [7214] [.arr 7214,I a,I b,.fn 80 [.ptr false [Zae false boxes]],I i,I (j-1)] [some (.arr 1 ys'.length (fun q=>bif Nat.beq q ((j-1).toNat) then spl ((fun q=>bif Nat.beq q j.toNat then [I (at_ ys' ((j-1).toNat))] else (fI ys') q) ((j-1).toNat)) 0 [I (at_ ys' j.toNat)] else (fun q=>bif Nat.beq q j.toNat then [I (at_ ys' ((j-1).toNat))] else (fI ys') q) q))] [inR .i64 (j-1)] ⟨(Zaf om om),trivial⟩ ?_
       refine Zcb [] (T:=[(0,.arr 7214),(1,I a),(2,I b),(3,.fn 80 [.ptr false [Zae false boxes]]),(8,I i),(9,I (j-1))]) (O:=[(7214,tAI ((ys'.set j.toNat (at_ ys' ((j-1).toNat))).set ((j-1).toNat) (at_ ys' j.toNat)))]) rfl (⟨.inl rfl,.inl rfl,.inl rfl,.inl rfl,.inl rfl,.inl rfl,trivial⟩) (⟨.inr ⟨rfl,(by first|rfl|(simp;done)|(simp;omega)|omega),fun i_ hi_=> .inl (Zxw (enc:=cI) (fun i_ hi_=>(Zrw (enc:=cI) rfl i_ hi_)) ((by first|omega|(simp only [List.length_set];omega))) rfl i_ hi_)⟩,trivial⟩) (Zbu ((j-1),((ys'.set j.toNat (at_ ys' ((j-1).toNat))).set ((j-1).toNat) (at_ ys' j.toNat))) rfl (show (0≤(j-1)∧(j-1)≤i)∧(((ys'.set j.toNat (at_ ys' ((j-1).toNat))).set ((j-1).toNat) (at_ ys' j.toNat))=Zhj (Zci (cL boxes) data i.toNat) (at_ data i.toNat) (j-1).toNat++data.drop (i.toNat+1))∧(∀k:Nat,(j-1)≤(k:Int)→(k:Int)<i→(cL boxes) (at_ data i.toNat) (at_ (Zci (cL boxes) data i.toNat) k)<0)∧True from ⟨om,(by exact hst),(by exact hgn),trivial⟩) (by first|(show ((j-1).toNat:Nat)<j.toNat;omega)|(dsimp only;omega)))
      have hq:=h3
      rw [e1,e2] at hq
      have hio:=Zpk (c:=(cL boxes)) (xs:=data) (i:=i.toNat) (j:=j.toNat) om (fun k h1 h2=>hgt k om om) (Or.inr hq)
      rw [hio] at hin
      refine x_r [(2,.dec true),(14,.call [(true,.any),(true,.any),(true,.any)] true (I (cL boxes (at_ ys' j.toNat) (at_ ys' ((j-1).toNat))))),(15,.dec false)] [0,1,2,3,8,9,34] [7214] [.arr 7214,I a,I b,.fn 80 [.ptr false [Zae false boxes]],I i,I j,Bv false] [some (tAI ys')] [_,(0:Int)≤j∧j<(ys'.length:Int),j.toNat<ys'.length,inR .i64 (j-1),(0:Int)≤(j-1)∧(j-1)<(ys'.length:Int),(j-1).toNat<ys'.length,_∧True,_] ⟨h2,⟨om,om⟩,om,(Zaf om om),⟨om,om⟩,om,⟨(Zcy (at_ ys' j.toNat) (at_ ys' ((j-1).toNat)) boxes (by first|omega|exact hcl _ (Zbj om)) (by first|omega|exact hcl _ (Zbj om))),trivial⟩,h3,trivial⟩ (Zac (Zca rfl (Zcw (Zas ?_))))
      refine Zaw ?_
      refine Zat (Zbm 1 (Zac ?_))
      refine x_r [] [0,1,2,3,8] [7214] [.arr 7214,I a,I b,.fn 80 [.ptr false [Zae false boxes]],I (i+1)] [some (tAI ys')] [inR .i64 (i+1)] ⟨(Zaf om om),trivial⟩ ?_
      exact Zbu ((i+1),ys') rfl (show (1≤(i+1)∧((i+1)≤(data.length:Int)∨(i+1)=1))∧(ys'=Zci (cL boxes) data (min (i+1).toNat data.length)++data.drop (i+1).toNat)∧True from ⟨om,(by rw [hin,show (i+1).toNat=i.toNat+1 from by omega,show min (i.toNat+1) data.length=i.toNat+1 from by omega]),trivial⟩) (by first|(show (((data.length:Int)-(i+1)).toNat:Nat)<((data.length:Int)-i).toNat;omega)|(dsimp only;omega))
     have hio:=Zpk (c:=(cL boxes)) (xs:=data) (i:=i.toNat) (j:=j.toNat) om (fun k h1 h2=>hgt k om om) (Or.inl om)
     rw [hio] at hin
     refine x_r [(2,.dec false)] [0,1,2,3,8,9,34] [7214] [.arr 7214,I a,I b,.fn 80 [.ptr false [Zae false boxes]],I i,I j,Bv false] [some (tAI ys')] [_] ⟨h2,trivial⟩ (Zac (Zca rfl (Zcw (Zas ?_))))
     refine Zaw ?_
     refine Zat (Zbm 1 (Zac ?_))
     refine x_r [] [0,1,2,3,8] [7214] [.arr 7214,I a,I b,.fn 80 [.ptr false [Zae false boxes]],I (i+1)] [some (tAI ys')] [inR .i64 (i+1)] ⟨(Zaf om om),trivial⟩ ?_
     exact Zbu ((i+1),ys') rfl (show (1≤(i+1)∧((i+1)≤(data.length:Int)∨(i+1)=1))∧(ys'=Zci (cL boxes) data (min (i+1).toNat data.length)++data.drop (i+1).toNat)∧True from ⟨om,(by rw [hin,show (i+1).toNat=i.toNat+1 from by omega,show min (i.toNat+1) data.length=i.toNat+1 from by omega]),trivial⟩) (by first|(show (((data.length:Int)-(i+1)).toNat:Nat)<((data.length:Int)-i).toNat;omega)|(dsimp only;omega))
    have hyf:ys=Zci (cL boxes) data data.length:=by rw [hys,show min i.toNat data.length=data.length from by omega,List.drop_eq_nil_of_le om,List.append_nil]
    refine x_r [(2,.dec false)] [0,1,2,3,8,14] [7214] [.arr 7214,I a,I b,.fn 80 [.ptr false [Zae false boxes]],I i,Bv false] [some (tAI ys)] [_] ⟨h1,trivial⟩ (Zac (Zca rfl (Zcw (Zas ?_))))
    refine Zaw ?_
    refine Zat ?_
    refine Zhy ys (show (ys=Zci (cL boxes) data data.length)∧(True) from ⟨(by exact hyf),trivial⟩) (⟨.inl rfl,trivial⟩) (.tup []) (by kernel_rfl) (.inl rfl) (fun _=>rfl) (fun _=>(by simp [Zah,Zag]))
  obtain ⟨data',⟨hh0,_⟩,hc⟩:=hh
  exact ⟨data',hh0,hc⟩
theorem sLpdq_ok (data:List Int) (a:Int) (b:Int) (limit:Int) (boxes:List Box) (hb:a=0∧b=(data.length:Int)) (hl:data.length≤12) (hcl:∀x∈data,0≤x∧x<(boxes.length:Int)):∃(data':List Int),(data'=Zci (cL boxes) data data.length)∧Zao Try.prog 78 [.arr 7214,I a,I b,I limit,.fn 80 [.ptr false [Zae false boxes]]] (Zab [(7214,tAI data)]) true (.tup []) (Zab [(7214,tAI data')]):=by
 have hh:∃r:(List Int),((r=Zci (cL boxes) data data.length)∧(True))∧Zao Try.prog 78 [.arr 7214,I a,I b,I limit,.fn 80 [.ptr false [Zae false boxes]]] (Zab [(7214,tAI data)]) true (.tup []) (Zab [(7214,tAI r)]):=by
  refine Zcp (Φ:=fun r:(List Int)=>(r=Zci (cL boxes) data data.length)∧(True)) [(7214,tAI data)] (fun r=>[(7214,tAI r)]) (fn:=Try.f78) (nt:=148) Try.func78 rfl rfl (args:=[.arr 7214,I a,I b,I limit,.fn 80 [.ptr false [Zae false boxes]]]) rfl (Zap (.inr trivial) (Zap (.inl ⟨rfl,trivial⟩) (Zap (.inl ⟨rfl,trivial⟩) (Zap (.inl ⟨rfl,trivial⟩) (Zap (.inl ⟨rfl,by simp [Zah,Zag,Zbo]⟩) Zco))))) (res:=fun r=> .tup []) ?_
  refine xQ [] [0,1,2,3,4,10] [7214] [] trivial ?_
  refine xR [] [0,1,2,3,4,10,11] [7214] [.arr 7214,I a,I b,I limit,.fn 80 [.ptr false [Zae false boxes]],Bv true,Bv true] [some (tAI data)] [] trivial (Zbg ?_)
  refine Zdn (X:=Int×Int×Int×Bool×Bool) (fun x=>mkS [(0,.arr 7214),(1,I x.1),(2,I x.2.1),(3,I x.2.2.1),(4,.fn 80 [.ptr false [Zae false boxes]]),(10,Bv x.2.2.2.1),(11,Bv x.2.2.2.2)] [(7214,tAI data)]) (fun x=>(x.1=0∧x.2.1=(data.length:Int))∧True) (fun x=>(0:Nat)) (a,b,limit,true,true) rfl (show (a=0∧b=(data.length:Int))∧True from ⟨om,trivial⟩) (fun x hI=> ?_)
  obtain ⟨a',b',limit',wasBalanced,wasPartitioned⟩:=x
  obtain ⟨hab,_⟩:(a'=0∧b'=(data.length:Int))∧True:=hI
  show XW _ _ _ _ (mkS [(0,.arr 7214),(1,I a'),(2,I b'),(3,I limit'),(4,.fn 80 [.ptr false [Zae false boxes]]),(10,Bv wasBalanced),(11,Bv wasPartitioned)] [(7214,tAI data)]) _ _
  refine Zbg ?_
  refine xQ [] [0,1,2,3,4,10,11,12] [7214] [inR .i64 (b'-a')] ⟨(Zaf om om),trivial⟩ (Zam ?_)
  refine xQ [(1,.dec true)] [0,1,2,3,4,10,11,12,25] [7214] [(b'-a')≤12] ⟨om,trivial⟩ (Zel (Zam ?_))
  obtain ⟨data'_1,hx1_0,hc1⟩:=sLins_ok data a' b' boxes (by first|omega|(subst_vars;omega)) (by first|omega|(subst_vars;omega)) (by first|exact hcl|(rw [hyd];exact hcl))
  refine x_r [(4,.lend [(7214,tAI data,tAI data'_1)] [] [(true,.any),(true,.any),(true,.any),(true,.any)] true (.tup []))] [] [7214] [] [some (tAI data'_1)] [Zao Try.prog 84 [.arr 7214,I a',I b',.fn 80 [.ptr false [Zae false boxes]]] (Zab [(7214,tAI data)]) true (.tup []) (Zab [(7214,tAI data'_1)])∧(((tAI data:Ob)=tAI data∨Zef Zdl true (tAI data) (tAI data))∧Zan false (tAI data))∧True] ⟨⟨hc1,⟨.inl rfl,fun _ _=>Zrg false _⟩,trivial⟩,trivial⟩ (Zac (Zby ?_))
  refine Zbc (Zkd (Zrt (Zkd ?_)))
  refine Zbd data'_1 (show (data'_1=Zci (cL boxes) data data.length)∧(True) from ⟨(by assumption),trivial⟩) (⟨.inl rfl,trivial⟩) (.tup []) (by kernel_rfl) (.inl rfl) (fun _=>rfl) (fun _=>(by simp [Zah,Zag]))
 obtain ⟨data',⟨hh0,_⟩,hc⟩:=hh
 exact ⟨data',hh0,hc⟩
theorem Zyi (data:List Int) (boxes:List Box) (hl:data.length≤12) (hcl:∀x∈data,0≤x∧x<(boxes.length:Int)):∃(data':List Int),(data'=Zci (cL boxes) data data.length)∧Zao Try.prog 66 [.arr 7214,.fn 80 [.ptr false [Zae false boxes]]] (Zab [(7214,tAI data)]) true (.tup []) (Zab [(7214,tAI data')]):=by
 have hh:∃r:(List Int),((r=Zci (cL boxes) data data.length)∧(True))∧Zao Try.prog 66 [.arr 7214,.fn 80 [.ptr false [Zae false boxes]]] (Zab [(7214,tAI data)]) true (.tup []) (Zab [(7214,tAI r)]):=by
  refine Zcp (Φ:=fun r:(List Int)=>(r=Zci (cL boxes) data data.length)∧(True)) [(7214,tAI data)] (fun r=>[(7214,tAI r)]) (fn:=Try.f66) (nt:=14) Try.func66 rfl rfl (args:=[.arr 7214,.fn 80 [.ptr false [Zae false boxes]]]) rfl (Zap (.inr trivial) (Zap (.inl ⟨rfl,by simp [Zah,Zag,Zbo]⟩) Zco)) (res:=fun r=> .tup []) ?_
  refine xQ [] [0,1,4] [7214] [] trivial ?_
  obtain ⟨data'_1,hx1_0,hc1⟩:=sLpdq_ok data 0 (data.length:Int) ((Lib.bitLen (data.length:Int).toNat:Nat):Int) boxes (by first|omega|(subst_vars;omega)) (by first|omega|(subst_vars;omega)) hcl
  refine x_r [(4,.call [(true,.any)] true (I ((Lib.bitLen (data.length:Int).toNat:Nat):Int))),(6,.lend [(7214,tAI data,tAI data'_1)] [] [(true,.any),(true,.any),(true,.any),(true,.any),(true,.any)] true (.tup []))] [] [7214] [] [some (tAI data'_1)] [inR .u64 (data.length:Int),_∧True,Zao Try.prog 78 [.arr 7214,I 0,I (data.length:Int),I ((Lib.bitLen (data.length:Int).toNat:Nat):Int),.fn 80 [.ptr false [Zae false boxes]]] (Zab [(7214,tAI data)]) true (.tup []) (Zab [(7214,tAI data'_1)])∧(((tAI data:Ob)=tAI data∨Zef Zdl true (tAI data) (tAI data))∧Zan false (tAI data))∧True] ⟨(Zfr om om),⟨(Zyh (data.length:Int) om),trivial⟩,⟨hc1,⟨.inl rfl,fun _ _=>Zrg false _⟩,trivial⟩,trivial⟩ ?_
  refine Zhy data'_1 (show (data'_1=Zci (cL boxes) data data.length)∧(True) from ⟨(by first|assumption|omega),trivial⟩) (⟨.inl rfl,trivial⟩) (.tup []) (by kernel_rfl) (.inl rfl) (fun _=>rfl) (fun _=>(by simp [Zah,Zag]))
 obtain ⟨data',⟨hh0,_⟩,hc⟩:=hh
 exact ⟨data',hh0,hc⟩
theorem Zvu (data:List Int) (boxes:List Box) (hl:data.length≤12∨data.length=60∧Zml (cL boxes) data) (hcl:∀x∈data,0≤x∧x<(boxes.length:Int)):∃(data':List Int),(data'=Zci (cL boxes) data data.length)∧Zao Try.prog 66 [.arr 7214,.fn 80 [.ptr false [Zae false boxes]]] (Zab [(7214,tAI data)]) true (.tup []) (Zab [(7214,tAI data')]):=by
 rcases hl with hl|⟨hl,hs⟩
 ·exact Zyi data boxes om hcl
 ·obtain ⟨d,h1,h2⟩:=Zvt data boxes hl hs hcl
  exact ⟨d,by rw [h1,Zpl hs],h2⟩
theorem Zmz (boxes:List Box) (gap:Int) (hp:Zbp boxes=true) (hg:0≤gap∧gap≤4095) (hs:smB boxes):∃(v:List Line),(v=Zmm boxes gap)∧Con Try.prog 34 [Zae false boxes,I gap] true (Zga true v):=by
  have hpn:=Zma hp
  have hh:∃r:(List Line),((r=Zmm boxes gap)∧(True))∧Zao Try.prog 34 [Zae false boxes,I gap] (Zab []) true (Zga true r) (Zab []):=by
    refine Zcp (Φ:=fun r:(List Line)=>(r=Zmm boxes gap)∧(True)) [] (fun r=>[]) (fn:=Try.f34) (nt:=102) Try.func34 rfl rfl (args:=[Zae false boxes,I gap]) rfl (Zap (.inl ⟨rfl,Zbo false _⟩) (Zap (.inl ⟨rfl,trivial⟩) Zco)) (res:=fun r=>Zga true r) ?_
    refine xQ [(0,.new 2)] [1,2] [2] [] trivial ?_
    refine xQ [] [1,2,5] [2] [] trivial (Zam ?_)
    refine xR [] [1,2,5,16,17] [2] [I gap,.ref 2 0,Zfj,I (boxes.length:Int),I 0] [some (.box [Zae false boxes])] [] trivial (Zbg ?_)
    refine Zwe 5 705 1 (fun _=>[]) (by kernel_rfl) ?_
    refine Zde [] (T:=[(1,I gap),(2,.ref 2 0),(5,.arr 705),(16,I (boxes.length:Int)),(17,I 0)]) (O:=[(2,.box [Zae false boxes]),(705,tAI ([]:List Int))]) rfl (⟨.inl rfl,.inl rfl,.inl rfl,.inl rfl,.inl rfl,trivial⟩) (⟨.inl rfl,.inr ⟨rfl,(by first|rfl|(simp;done)|(simp;omega)|omega),fun i_ hi_=>absurd hi_ (Nat.not_lt_zero _)⟩,trivial⟩) ?_
    refine Zdn (X:=(List Int)×Int) (fun x=>mkS [(1,I gap),(2,.ref 2 0),(5,.arr 705),(16,I (boxes.length:Int)),(17,I x.2)] [(2,.box [Zae false boxes]),(705,tAI x.1)]) (fun x=>(0≤x.2∧x.2≤(boxes.length:Int))∧(x.1=ixL x.2.toNat)∧((x.1.length:Int)=x.2)∧True) (fun x=>((boxes.length:Int)-x.2).toNat) (([]:List Int),0) rfl (show (0≤(0:Int)∧(0:Int)≤(boxes.length:Int))∧(([]:List Int)=ixL (0:Int).toNat)∧((([]:List Int).length:Int)=(0:Int))∧True from ⟨om,(by rfl),(by rfl),trivial⟩) (fun x hI=> ?_)
    obtain ⟨od,t17⟩:=x
    obtain ⟨hi0,hol,hoz,_⟩:(0≤t17∧t17≤(boxes.length:Int))∧(od=ixL t17.toNat)∧((od.length:Int)=t17)∧True:=hI
    show XW _ _ _ _ (mkS [(1,I gap),(2,.ref 2 0),(5,.arr 705),(16,I (boxes.length:Int)),(17,I t17)] [(2,.box [Zae false boxes]),(705,tAI od)]) _ _
    refine Zam ?_
    by_cases h1:t17<(boxes.length:Int)
    ·have hi:t17.toNat<boxes.length:=by omega
     have hnx:(t17+1).toNat=t17.toNat+1:=by omega
     have hix:(t17.toNat:Int)=t17:=by omega
     refine x_q [(0,.dec true)] [1,2,5,16,17,18] [2,705] [_] ⟨h1,trivial⟩ (Zac (Zam (Zel (Zbn (Zac (Zam (Zbg ?_)))))))
     refine xQ [] [1,2,5,6,16,17] [2,705] [] trivial ?_
     refine x_q [(2,.new 22),(3,.new 23)] [1,2,5,16,17] [2,23] [(od.length+1)*8≤140737488355328] ⟨om,trivial⟩ (Zbm 1 (Zac ?_))
     refine x_r [] [1,2,5,16,17] [2,23] [I gap,.ref 2 0,.arr 23,I (boxes.length:Int),I (t17+1)] [some (.box [Zae false boxes]),some (.arr 1 (od.length+1) (Zeg od.length (fI od) (Zeo [I t17] 1)))] [inR .i64 (t17+1)] ⟨(Zaf om om),trivial⟩ ?_
     refine Zcb [(705,23)] (T:=[(1,I gap),(2,.ref 2 0),(5,.arr 705),(16,I (boxes.length:Int)),(17,I (t17+1))]) (O:=[(2,.box [Zae false boxes]),(705,tAI (od++[t17]))]) rfl (⟨.inl rfl,.inl rfl,.inl rfl,.inl rfl,.inl rfl,trivial⟩) (⟨.inl rfl,.inr ⟨rfl,(by first|rfl|(simp;done)|(simp;omega)|omega),fun i_ hi_=> .inl (Zdm (enc:=cI) (xs:=od) rfl i_ hi_)⟩,trivial⟩) (Zbu ((od++[t17]),(t17+1)) rfl (show (0≤(t17+1)∧(t17+1)≤(boxes.length:Int))∧((od++[t17])=ixL (t17+1).toNat)∧(((od++[t17]).length:Int)=(t17+1))∧True from ⟨om,(by rw [hnx,Zug,←hol,hix]),(by rw [List.length_append];simp;omega),trivial⟩) (by first|(show (((boxes.length:Int)-(t17+1)).toNat:Nat)<((boxes.length:Int)-t17).toNat;omega)|(dsimp only;omega)))
    have hie1:t17.toNat=boxes.length:=by omega
    refine x_r [(0,.dec false)] [1,2,5,16,17,18] [2,705] [I gap,.ref 2 0,.arr 705,I (boxes.length:Int),I t17,Bv false] [some (.box [Zae false boxes]),some (tAI od)] [_] ⟨h1,trivial⟩ (Zac (Zam (Zca rfl (Zcw (Zas ?_)))))
    refine Zaw ?_
    refine Zat (Zac (Zam ?_))
    refine Zde [(7214,705)] (T:=[(1,I gap),(2,.ref 2 0),(5,.arr 7214),(16,I (boxes.length:Int)),(17,I t17),(18,Bv false)]) (O:=[(2,.box [Zae false boxes]),(7214,tAI od)]) rfl (⟨.inl rfl,.inl rfl,.inl rfl,.inl rfl,.inl rfl,.inl rfl,trivial⟩) (⟨.inl rfl,.inl rfl,trivial⟩) ?_
    obtain ⟨data'_1,hx1_0,hc1⟩:=Zvs od boxes (by first|(rw [hol,hie1];exact sm_ixY hs)|exact hsm) (by first|(rw [hol,hie1];exact fun x hx=>Zpm.1 hx)|exact hbb.2.1)
    have hod:data'_1=Zfk boxes:=by rw [hx1_0,hol,hie1,Zdu];rfl
    have hdl:data'_1.length=boxes.length:=by rw [hod,Zdi]
    refine x_q [(2,.lendT [(7214,tAI od,tAI data'_1)] [] [(true,.any),(false,.fn 64 [.ptr false [Zae false boxes]])] true (.tup []))] [1,2,5] [2,7214] [Zao Try.prog 63 [.arr 7214,.fn 64 [.ptr false [Zae false boxes]]] (Zab [(7214,tAI od)]) true (.tup []) (Zab [(7214,tAI data'_1)])∧Znl [(7214,tAI data'_1)]∧Zah true (.tup [])∧(64=64∧((false=true→true=true)∧AV.idsL [Zae false boxes]=[]∧((false=true→false=true)∧4=4∧boxes.length=boxes.length∧∀i_,i_<boxes.length→(Zdr boxes) i_=(Zdr boxes) i_∨(AV.idsL ((Zdr boxes) i_)=[]∧leL (fun _=>none) false ((Zdr boxes) i_) ((Zdr boxes) i_)))∧([]:List AV)=[])∧([]:List AV)=[])∧(((tAI od:Ob)=tAI od∨Zef Zdl true (tAI od) (tAI od))∧Zan false (tAI od))∧True] ⟨⟨hc1,⟨(fun _ _=>Zrg true _),trivial⟩,(by simp [Zah,Zag]),⟨rfl,⟨⟨(fun h=>by cases h),rfl,⟨⟨(fun h=>by cases h),rfl,rfl,fun i _=> .inl rfl⟩,rfl⟩⟩,rfl⟩⟩,⟨.inl rfl,fun _ _=>Zrg false _⟩,trivial⟩,trivial⟩ (Zac ?_)
    refine xQ [] [1,2,5,7] [2,7214] [] trivial (Zam ?_)
    refine xR [] [1,2,7,28,29,30] [2,7214] [I gap,.ref 2 0,Zfj,.arr 7214,I (data'_1.length:Int),I 0] [some (.box [Zae false boxes]),some (tAI data'_1)] [] trivial (Zbg ?_)
    refine Zwe 7 707 3 (fun _=>[]) (by kernel_rfl) ?_
    refine x_fam 9213 1 (fun _=>0) (fun _ _=>[]) (by kernel_rfl) ?_
    refine Zde [] (T:=[(1,I gap),(2,.ref 2 0),(7,.arr 707),(28,.arr 7214),(29,I (data'_1.length:Int)),(30,I 0)]) (O:=[(2,.box [Zae false boxes]),(707,Zdo 9213 ([]:List Line)),(7214,tAI data'_1),(9213,Zcv ([]:List Line))]) rfl (⟨.inl rfl,.inl rfl,.inl rfl,.inl rfl,.inl rfl,.inl rfl,trivial⟩) (⟨.inl rfl,.inr ⟨rfl,rfl,fun i hi=>absurd hi (Nat.not_lt_zero _)⟩,.inl rfl,.inr ⟨rfl,rfl,fun p hp=>absurd hp (Nat.not_lt_zero _)⟩,trivial⟩) ?_
    refine Zdn (X:=(List Line)×Int) (fun x=>mkS [(1,I gap),(2,.ref 2 0),(7,.arr 707),(28,.arr 7214),(29,I (data'_1.length:Int)),(30,I x.2)] [(2,.box [Zae false boxes]),(707,Zdo 9213 x.1),(7214,tAI data'_1),(9213,Zcv x.1)]) (fun x=>(0≤x.2∧x.2≤(boxes.length:Int))∧(x.1=Zfl boxes gap (Zfk boxes) x.2.toNat)∧True) (fun x=>((boxes.length:Int)-x.2).toNat) (([]:List Line),0) rfl (show (0≤(0:Int)∧(0:Int)≤(boxes.length:Int))∧(([]:List Line)=Zfl boxes gap (Zfk boxes) (0:Int).toNat)∧True from ⟨om,(by rfl),trivial⟩) (fun x hI=> ?_)
    obtain ⟨ls,t30⟩:=x
    obtain ⟨hi1,hls,_⟩:(0≤t30∧t30≤(boxes.length:Int))∧(ls=Zfl boxes gap (Zfk boxes) t30.toNat)∧True:=hI
    show XW _ _ _ _ (mkS [(1,I gap),(2,.ref 2 0),(7,.arr 707),(28,.arr 7214),(29,I (data'_1.length:Int)),(30,I t30)] [(2,.box [Zae false boxes]),(707,Zdo 9213 ls),(7214,tAI data'_1),(9213,Zcv ls)]) _ _
    refine Zam ?_
    by_cases h2:t30<(data'_1.length:Int)
    ·have hi:t30.toNat<boxes.length:=by omega
     have hnx:(t30+1).toNat=t30.toNat+1:=by omega
     have hdi:at_ data'_1 t30.toNat=at_ (Zfk boxes) t30.toNat:=by rw [hod]
     have hik:0≤at_ data'_1 t30.toNat∧at_ data'_1 t30.toNat<(boxes.length:Int):=by rw [hod];exact Zyj hi
     have hbk:=Zfe hp (j:=(at_ data'_1 t30.toNat).toNat) om
     have hlb:∀l∈ls,lnB boxes t30.toNat l:=by rw [hls];exact Znu hp (fun x hx=>Zfp.1 hx) _ (by rw [Zdi];omega)
     have hll:ls.length≤t30.toNat:=by rw [hls];exact Zmb _ _ _ _
     refine x_q [(0,.dec true)] [1,2,7,28,29,30,31] [2,707,7214,9213] [_] ⟨h2,trivial⟩ (Zac (Zam (Zel (Zbn (Zac (Zam (Zbg ?_)))))))
     refine xQ [] [1,2,7,9,28,29,30] [2,707,7214,9213] [(0:Int)≤t30∧t30<(data'_1.length:Int),t30.toNat<data'_1.length] ⟨⟨om,om⟩,om,trivial⟩ ?_
     refine xR [(4,.new 10)] [1,2,7,9,10,28,29,30] [2,10,707,7214,9213] [I gap,.ref 2 0,.arr 707,I (at_ data'_1 t30.toNat),.ref 10 0,.arr 7214,I (data'_1.length:Int),I t30] [some (.box [Zae false boxes]),some (Zhf (at_ boxes ((at_ data'_1 t30.toNat).toNat))),some (Zdo 9213 ls),some (tAI data'_1),some (Zcv ls)] [(0:Int)≤(at_ data'_1 t30.toNat)∧(at_ data'_1 t30.toNat)<(boxes.length:Int)] ⟨⟨om,om⟩,trivial⟩ ?_
     refine x_cut (X:=(List Line)) (fun x=>mkS [(1,I gap),(2,.ref 2 0),(7,.arr 707),(9,I (at_ data'_1 t30.toNat)),(10,.ref 10 0),(28,.arr 7214),(29,I (data'_1.length:Int)),(30,I t30)] [(2,.box [Zae false boxes]),(10,Zhf (at_ boxes ((at_ data'_1 t30.toNat).toNat))),(707,Zdo 9213 x),(7214,tAI data'_1),(9213,Zcv x)]) (fun x=>(x=Zna boxes gap ls (at_ data'_1 t30.toNat))∧True) ?_ (fun x hI=> ?_)
     ·refine xQ [] [1,2,7,9,10,11,28,29,30] [2,10,707,7214,9213] [inR .i64 ((ls.length:Int)-1)] ⟨(Zaf om om),trivial⟩ (Zam ?_)
      by_cases h3:((ls.length:Int)-1)<0
      ·have hpy:=Zyk (bs:=boxes) (gap:=gap) (ls:=ls) (k:=at_ data'_1 t30.toNat) (.inl om)
       refine x_q [(1,.dec true)] [1,2,7,9,10,28,29,30,54] [2,10,707,7214,9213] [_] ⟨h3,trivial⟩ (Zac (Zel ?_))
       refine x_r [(6,.new 61),(7,.new 62)] [1,2,7,9,10,28,29,30] [2,10,62,7214,9213] [I gap,.ref 2 0,.arr 62,I (at_ data'_1 t30.toNat),.ref 10 0,.arr 7214,I (data'_1.length:Int),I t30] [some (.box [Zae false boxes]),some (Zhf (at_ boxes ((at_ data'_1 t30.toNat).toNat))),some (.oar [9213] 3 (ls.length+1) (Zeg ls.length (Zek 9213 ls) (Zeo [I ((at_ boxes ((at_ data'_1 t30.toNat).toNat)).Y1),I ((at_ boxes ((at_ data'_1 t30.toNat).toNat)).Y2),Zfj] 3))),some (tAI data'_1),some (Zcv ls)] [(ls.length+1)*40≤140737488355328] ⟨om,trivial⟩ ?_
       refine Zpj 62 8601 1 ls.length [I ((at_ boxes ((at_ data'_1 t30.toNat).toNat)).Y1),I ((at_ boxes ((at_ data'_1 t30.toNat).toNat)).Y2)] (Zeg ls.length (Zek 9213 ls) (Zeo [I ((at_ boxes ((at_ data'_1 t30.toNat).toNat)).Y1),I ((at_ boxes ((at_ data'_1 t30.toNat).toNat)).Y2),.arr 8601] 3)) (fun _=>[]) rfl (om) (u:=Zfj) (by rw [Zdg (Nat.le_refl _),Nat.sub_self];rfl) rfl (by rw [Zdg (Nat.le_refl _),Nat.sub_self];rfl) (fun q h1_ h2_=>by rw [Zdk om,Zdk om]) rfl (by kernel_rfl) ?_
       refine Zjo 8601 9213 rfl rfl rfl ?_
       refine Zcb [(707,62)] (T:=[(1,I gap),(2,.ref 2 0),(7,.arr 707),(9,I (at_ data'_1 t30.toNat)),(10,.ref 10 0),(28,.arr 7214),(29,I (data'_1.length:Int)),(30,I t30)]) (O:=[(2,.box [Zae false boxes]),(10,Zhf (at_ boxes ((at_ data'_1 t30.toNat).toNat))),(707,Zdo 9213 (ls++[(Line.mk ((at_ boxes ((at_ data'_1 t30.toNat).toNat)).Y1) ((at_ boxes ((at_ data'_1 t30.toNat).toNat)).Y2) ([]:List Int))])),(7214,tAI data'_1),(9213,Zcv (ls++[(Line.mk ((at_ boxes ((at_ data'_1 t30.toNat).toNat)).Y1) ((at_ boxes ((at_ data'_1 t30.toNat).toNat)).Y2) ([]:List Int))]))]) rfl (⟨.inl rfl,.inl rfl,.inl rfl,.inl rfl,.inl rfl,.inl rfl,.inl rfl,.inl rfl,trivial⟩) (⟨.inl rfl,.inl rfl,.inr ⟨rfl,rfl,(by simp),fun i hi=> .inl (Zuh rfl rfl rfl i hi)⟩,.inl rfl,.inr (Zui (Line.mk ((at_ boxes ((at_ data'_1 t30.toNat).toNat)).Y1) ((at_ boxes ((at_ data'_1 t30.toNat).toNat)).Y2) ([]:List Int)) (by first|rfl|(simp;done)) (fun i_ hi_=>absurd hi_ (Nat.not_lt_zero _))),trivial⟩) (Zip (ls++[(Line.mk ((at_ boxes ((at_ data'_1 t30.toNat).toNat)).Y1) ((at_ boxes ((at_ data'_1 t30.toNat).toNat)).Y2) ([]:List Int))]) rfl (show ((ls++[(Line.mk ((at_ boxes ((at_ data'_1 t30.toNat).toNat)).Y1) ((at_ boxes ((at_ data'_1 t30.toNat).toNat)).Y2) ([]:List Int))])=Zna boxes gap ls (at_ data'_1 t30.toNat))∧True from ⟨(by first|exact hpy.symm|exact hpn.symm),trivial⟩))
      have hlq:=hlb _ (Zbj (i:=((ls.length:Int)-1).toNat) om)
      have hlq1:=hlq.1
      have hle:Zdq ls=at_ ls ((ls.length:Int)-1).toNat:=by unfold Zdq;congr 1;omega
      by_cases h4:(((at_ ls (((ls.length:Int)-1).toNat)).Bottom)+gap)<((at_ boxes ((at_ data'_1 t30.toNat).toNat)).Y1)
      ·have hpy:=Zyk (bs:=boxes) (gap:=gap) (ls:=ls) (k:=at_ data'_1 t30.toNat) (.inr (by rw [hle];exact h4))
       refine x_q [(1,.dec false),(12,.dec true)] [1,2,7,9,10,28,29,30,54] [2,10,707,7214,9213] [_,(0:Int)≤((ls.length:Int)-1)∧((ls.length:Int)-1)<(ls.length:Int),((ls.length:Int)-1).toNat<ls.length,inR .i64 (((at_ ls (((ls.length:Int)-1).toNat)).Bottom)+gap),_] ⟨h3,⟨om,om⟩,om,(Zaf om om),h4,trivial⟩ (Zac (Zel ?_))
       refine x_r [(6,.new 61),(7,.new 62)] [1,2,7,9,10,28,29,30] [2,10,62,7214,9213] [I gap,.ref 2 0,.arr 62,I (at_ data'_1 t30.toNat),.ref 10 0,.arr 7214,I (data'_1.length:Int),I t30] [some (.box [Zae false boxes]),some (Zhf (at_ boxes ((at_ data'_1 t30.toNat).toNat))),some (.oar [9213] 3 (ls.length+1) (Zeg ls.length (Zek 9213 ls) (Zeo [I ((at_ boxes ((at_ data'_1 t30.toNat).toNat)).Y1),I ((at_ boxes ((at_ data'_1 t30.toNat).toNat)).Y2),Zfj] 3))),some (tAI data'_1),some (Zcv ls)] [(ls.length+1)*40≤140737488355328] ⟨om,trivial⟩ ?_
       refine Zpj 62 8602 1 ls.length [I ((at_ boxes ((at_ data'_1 t30.toNat).toNat)).Y1),I ((at_ boxes ((at_ data'_1 t30.toNat).toNat)).Y2)] (Zeg ls.length (Zek 9213 ls) (Zeo [I ((at_ boxes ((at_ data'_1 t30.toNat).toNat)).Y1),I ((at_ boxes ((at_ data'_1 t30.toNat).toNat)).Y2),.arr 8602] 3)) (fun _=>[]) rfl (om) (u:=Zfj) (by rw [Zdg (Nat.le_refl _),Nat.sub_self];rfl) rfl (by rw [Zdg (Nat.le_refl _),Nat.sub_self];rfl) (fun q h1_ h2_=>by rw [Zdk om,Zdk om]) rfl (by kernel_rfl) ?_
       refine Zjo 8602 9213 rfl rfl rfl ?_
       refine Zcb [(707,62)] (T:=[(1,I gap),(2,.ref 2 0),(7,.arr 707),(9,I (at_ data'_1 t30.toNat)),(10,.ref 10 0),(28,.arr 7214),(29,I (data'_1.length:Int)),(30,I t30)]) (O:=[(2,.box [Zae false boxes]),(10,Zhf (at_ boxes ((at_ data'_1 t30.toNat).toNat))),(707,Zdo 9213 (ls++[(Line.mk ((at_ boxes ((at_ data'_1 t30.toNat).toNat)).Y1) ((at_ boxes ((at_ data'_1 t30.toNat).toNat)).Y2) ([]:List Int))])),(7214,tAI data'_1),(9213,Zcv (ls++[(Line.mk ((at_ boxes ((at_ data'_1 t30.toNat).toNat)).Y1) ((at_ boxes ((at_ data'_1 t30.toNat).toNat)).Y2) ([]:List Int))]))]) rfl (⟨.inl rfl,.inl rfl,.inl rfl,.inl rfl,.inl rfl,.inl rfl,.inl rfl,.inl rfl,trivial⟩) (⟨.inl rfl,.inl rfl,.inr ⟨rfl,rfl,(by simp),fun i hi=> .inl (Zuh rfl rfl rfl i hi)⟩,.inl rfl,.inr (Zui (Line.mk ((at_ boxes ((at_ data'_1 t30.toNat).toNat)).Y1) ((at_ boxes ((at_ data'_1 t30.toNat).toNat)).Y2) ([]:List Int)) (by first|rfl|(simp;done)) (fun i_ hi_=>absurd hi_ (Nat.not_lt_zero _))),trivial⟩) (Zip (ls++[(Line.mk ((at_ boxes ((at_ data'_1 t30.toNat).toNat)).Y1) ((at_ boxes ((at_ data'_1 t30.toNat).toNat)).Y2) ([]:List Int))]) rfl (show ((ls++[(Line.mk ((at_ boxes ((at_ data'_1 t30.toNat).toNat)).Y1) ((at_ boxes ((at_ data'_1 t30.toNat).toNat)).Y2) ([]:List Int))])=Zna boxes gap ls (at_ data'_1 t30.toNat))∧True from ⟨(by first|exact hpy.symm|exact hpn.symm),trivial⟩))
      have hpn:=pre_n (bs:=boxes) (gap:=gap) (ls:=ls) (k:=at_ data'_1 t30.toNat) (fun q=>by rcases q with q|q;omega;(rw [hle] at q;exact h4 q))
      refine x_r [(1,.dec false),(12,.dec false)] [1,2,7,9,10,28,29,30,54] [2,10,707,7214,9213] [I gap,.ref 2 0,.arr 707,I (at_ data'_1 t30.toNat),.ref 10 0,.arr 7214,I (data'_1.length:Int),I t30,Bv false] [some (.box [Zae false boxes]),some (Zhf (at_ boxes ((at_ data'_1 t30.toNat).toNat))),some (Zdo 9213 ls),some (tAI data'_1),some (Zcv ls)] [_,(0:Int)≤((ls.length:Int)-1)∧((ls.length:Int)-1)<(ls.length:Int),((ls.length:Int)-1).toNat<ls.length,inR .i64 (((at_ ls (((ls.length:Int)-1).toNat)).Bottom)+gap),_] ⟨h3,⟨om,om⟩,om,(Zaf om om),h4,trivial⟩ (Zac (Zca rfl (Zbn ?_)))
      refine Zcb [] (T:=[(1,I gap),(2,.ref 2 0),(7,.arr 707),(9,I (at_ data'_1 t30.toNat)),(10,.ref 10 0),(28,.arr 7214),(29,I (data'_1.length:Int)),(30,I t30)]) (O:=[(2,.box [Zae false boxes]),(10,Zhf (at_ boxes ((at_ data'_1 t30.toNat).toNat))),(707,Zdo 9213 ls),(7214,tAI data'_1),(9213,Zcv ls)]) rfl (⟨.inl rfl,.inl rfl,.inl rfl,.inl rfl,.inl rfl,.inl rfl,.inl rfl,.inl rfl,trivial⟩) (⟨.inl rfl,.inl rfl,.inl rfl,.inl rfl,.inl rfl,trivial⟩) (Zip ls rfl (show (ls=Zna boxes gap ls (at_ data'_1 t30.toNat))∧True from ⟨(by first|exact hpy.symm|exact hpn.symm),trivial⟩))
     obtain ⟨l2,hxx⟩:∃l2:List Line,l2=x:=⟨x,rfl⟩
     subst hxx
     obtain ⟨hl2,_⟩:(l2=Zna boxes gap ls (at_ data'_1 t30.toNat))∧True:=hI
     show XW _ _ _ _ (mkS [(1,I gap),(2,.ref 2 0),(7,.arr 707),(9,I (at_ data'_1 t30.toNat)),(10,.ref 10 0),(28,.arr 7214),(29,I (data'_1.length:Int)),(30,I t30)] [(2,.box [Zae false boxes]),(10,Zhf (at_ boxes ((at_ data'_1 t30.toNat).toNat))),(707,Zdo 9213 l2),(7214,tAI data'_1),(9213,Zcv l2)]) _ _
     have hpl:=Zpn boxes gap ls (at_ data'_1 t30.toNat)
     rw [←hl2] at hpl
     have hlb2:∀l∈l2,lnB boxes t30.toNat l:=by rw [hl2];exact pre_bd hp hik hlb
     have hadd:=Zpo boxes gap ls (at_ data'_1 t30.toNat)
     rw [←hl2] at hadd
     have hPe:l2.length-1=((l2.length:Int)-1).toNat:=by omega
     have hlq2:=hlb2 _ (Zbj (i:=((l2.length:Int)-1).toNat) om)
     have hlq3:=hlq2.2.2
     refine xQ [] [1,2,7,9,10,12,28,29,30] [2,10,707,7214,9213] [inR .i64 ((l2.length:Int)-1),(0:Int)≤((l2.length:Int)-1)∧((l2.length:Int)-1)<(l2.length:Int)] ⟨(Zaf om om),⟨om,om⟩,trivial⟩ ?_
     refine xR [] [1,2,7,9,12,28,29,30] [2,707,7214,9213] [I gap,.ref 2 0,.arr 707,I (at_ data'_1 t30.toNat),.elt 707 3 (((l2.length:Int)-1).toNat) 0,.arr 7214,I (data'_1.length:Int),I t30] [some (.box [Zae false boxes]),some (.oar [9213] 3 l2.length (fun q=>bif Nat.beq q (((l2.length:Int)-1).toNat) then [I ((at_ l2 (((l2.length:Int)-1).toNat)).Top),I (max ((at_ l2 (((l2.length:Int)-1).toNat)).Bottom) ((at_ boxes ((at_ data'_1 t30.toNat).toNat)).Y2)),.row 9213 (((l2.length:Int)-1).toNat)] else (Zek 9213 l2) q)),some (tAI data'_1),some (Zcv l2)] [((l2.length:Int)-1).toNat<l2.length,((l2.length:Int)-1).toNat<l2.length] ⟨om,om,trivial⟩ ?_
     refine Zde [] (T:=[(1,I gap),(2,.ref 2 0),(7,.arr 707),(9,I (at_ data'_1 t30.toNat)),(12,.elt 707 3 (((l2.length:Int)-1).toNat) 0),(28,.arr 7214),(29,I (data'_1.length:Int)),(30,I t30)]) (O:=[(2,.box [Zae false boxes]),(707,Zdo 9213 (l2.set (((l2.length:Int)-1).toNat) (Line.mk ((at_ l2 (((l2.length:Int)-1).toNat)).Top) (max ((at_ l2 (((l2.length:Int)-1).toNat)).Bottom) ((at_ boxes ((at_ data'_1 t30.toNat).toNat)).Y2)) ((at_ l2 (((l2.length:Int)-1).toNat)).Items)))),(7214,tAI data'_1),(9213,Zcv (l2.set (((l2.length:Int)-1).toNat) (Line.mk ((at_ l2 (((l2.length:Int)-1).toNat)).Top) (max ((at_ l2 (((l2.length:Int)-1).toNat)).Bottom) ((at_ boxes ((at_ data'_1 t30.toNat).toNat)).Y2)) ((at_ l2 (((l2.length:Int)-1).toNat)).Items))))]) rfl (⟨.inl rfl,.inl rfl,.inl rfl,.inl rfl,.inl rfl,.inl rfl,.inl rfl,.inl rfl,trivial⟩) (⟨.inl rfl,.inr ⟨rfl,rfl,(by simp),fun i_ hi_=> .inl (oputLine _ _ i_ hi_)⟩,.inl rfl,.inr (Zyl (P:=((l2.length:Int)-1).toNat) (x':=(Line.mk ((at_ l2 (((l2.length:Int)-1).toNat)).Top) (max ((at_ l2 (((l2.length:Int)-1).toNat)).Bottom) ((at_ boxes ((at_ data'_1 t30.toNat).toNat)).Y2)) ((at_ l2 (((l2.length:Int)-1).toNat)).Items))) rfl),trivial⟩) ?_
     generalize hl4:(l2.set (((l2.length:Int)-1).toNat) (Line.mk ((at_ l2 (((l2.length:Int)-1).toNat)).Top) (max ((at_ l2 (((l2.length:Int)-1).toNat)).Bottom) ((at_ boxes ((at_ data'_1 t30.toNat).toNat)).Y2)) ((at_ l2 (((l2.length:Int)-1).toNat)).Items)))=l4
     have h4:at_ l4 ((l2.length:Int)-1).toNat=Line.mk (at_ l2 ((l2.length:Int)-1).toNat).Top (max (at_ l2 ((l2.length:Int)-1).toNat).Bottom (at_ boxes (at_ data'_1 t30.toNat).toNat).Y2) (at_ l2 ((l2.length:Int)-1).toNat).Items:=by rw [←hl4];exact Zff om
     have h4n:(at_ l4 ((l2.length:Int)-1).toNat).Items.length≤60:=by rw [h4];show (at_ l2 ((l2.length:Int)-1).toNat).Items.length≤60;omega
     have h4l:l4.length=l2.length:=by rw [←hl4,List.length_set]
     refine Znt 707 8503 9213 (((l2.length:Int)-1).toNat) (Zss l4) rfl rfl (om) (fun q _=>rfl) (fun _=>rfl) (by kernel_rfl) ?_
     refine Zde [] (T:=[(1,I gap),(2,.ref 2 0),(7,.arr 707),(9,I (at_ data'_1 t30.toNat)),(12,.elt 707 3 (((l2.length:Int)-1).toNat) 0),(28,.arr 7214),(29,I (data'_1.length:Int)),(30,I t30)]) (O:=[(2,.box [Zae false boxes]),(707,.oar [8503,9213] 3 l4.length (fun q=>bif Nat.beq q (((l2.length:Int)-1).toNat) then [I ((at_ l4 (((l2.length:Int)-1).toNat)).Top),I ((at_ l4 (((l2.length:Int)-1).toNat)).Bottom),.arr 8503] else (Zek 9213 (l4.set (((l2.length:Int)-1).toNat) (Line.withItems (at_ l4 (((l2.length:Int)-1).toNat)) ([]:List Int)))) q)),(7214,tAI data'_1),(8503,tAI ((at_ l4 (((l2.length:Int)-1).toNat)).Items)),(9213,Zcv (l4.set (((l2.length:Int)-1).toNat) (Line.withItems (at_ l4 (((l2.length:Int)-1).toNat)) ([]:List Int))))]) rfl (⟨.inl rfl,.inl rfl,.inl rfl,.inl rfl,.inl rfl,.inl rfl,.inl rfl,.inl rfl,trivial⟩) (⟨.inl rfl,.inr ⟨rfl,rfl,(by first|rfl|(simp;done)),fun i_ hi_=> .inl ((Zym _ i_).trans (AV.renL_nil _).symm)⟩,.inl rfl,.inl rfl,.inr (Zja (om) (by first|rfl|(simp;done)|(simp;omega)) (fun i_ h_=>absurd h_ (Nat.not_lt_zero _))),trivial⟩) ?_
     refine x_r [(4,.as (.arr 8503)),(6,.new 84),(7,.new 85)] [1,2,7,28,29,30] [2,85,707,7214,9213] [I gap,.ref 2 0,.arr 707,.arr 7214,I (data'_1.length:Int),I t30] [some (.box [Zae false boxes]),some (.arr 1 ((((at_ l4 (((l2.length:Int)-1).toNat)).Items).length)+1) (Zeg (((at_ l4 (((l2.length:Int)-1).toNat)).Items).length) (fI ((at_ l4 (((l2.length:Int)-1).toNat)).Items)) (Zeo [I (at_ data'_1 t30.toNat)] 1))),some (.oar [8503,9213,85] 3 l4.length (fun q=>bif Nat.beq q (((l2.length:Int)-1).toNat) then spl ((fun q=>bif Nat.beq q (((l2.length:Int)-1).toNat) then [I ((at_ l4 (((l2.length:Int)-1).toNat)).Top),I ((at_ l4 (((l2.length:Int)-1).toNat)).Bottom),.arr 8503] else (Zek 9213 (l4.set (((l2.length:Int)-1).toNat) (Line.withItems (at_ l4 (((l2.length:Int)-1).toNat)) ([]:List Int)))) q) (((l2.length:Int)-1).toNat)) 2 [.arr 85] else (fun q=>bif Nat.beq q (((l2.length:Int)-1).toNat) then [I ((at_ l4 (((l2.length:Int)-1).toNat)).Top),I ((at_ l4 (((l2.length:Int)-1).toNat)).Bottom),.arr 8503] else (Zek 9213 (l4.set (((l2.length:Int)-1).toNat) (Line.withItems (at_ l4 (((l2.length:Int)-1).toNat)) ([]:List Int)))) q) q)),some (tAI data'_1),some (Zcv (l4.set (((l2.length:Int)-1).toNat) (Line.withItems (at_ l4 (((l2.length:Int)-1).toNat)) ([]:List Int))))] [((l2.length:Int)-1).toNat<l4.length∧List.drop 2 ((fun q=>bif Nat.beq q (((l2.length:Int)-1).toNat) then [I ((at_ l4 (((l2.length:Int)-1).toNat)).Top),I ((at_ l4 (((l2.length:Int)-1).toNat)).Bottom),.arr 8503] else (Zek 9213 (l4.set (((l2.length:Int)-1).toNat) (Line.withItems (at_ l4 (((l2.length:Int)-1).toNat)) ([]:List Int)))) q) (((l2.length:Int)-1).toNat))=[.arr 8503],((((at_ l4 (((l2.length:Int)-1).toNat)).Items).length)+1)*8≤140737488355328,((l2.length:Int)-1).toNat<l4.length] ⟨⟨om,(by simp only [Nat.beq_refl,cond_true];rfl)⟩,om,om,trivial⟩ (Zbm 3 (Zac ?_))
     refine Zrc 707 85 9213 (((l2.length:Int)-1).toNat) (fun q=>bif Nat.beq q (((l2.length:Int)-1).toNat) then [I ((at_ l4 (((l2.length:Int)-1).toNat)).Top),I ((at_ l4 (((l2.length:Int)-1).toNat)).Bottom)] else Zss (l4.set (((l2.length:Int)-1).toNat) (Line.withItems (at_ l4 (((l2.length:Int)-1).toNat)) ([]:List Int))) q) rfl rfl rfl ((by first|omega|(simp only [List.length_set];omega))) (by first|exact Nat.le_refl _|(simp;done)|omega) (fun q _=>⟨fun e=>by subst e;simp only [Nat.beq_refl,cond_true];rfl,fun e=>by simp only [Zjb e,cond_false];rfl⟩) (fun q=>by cases Nat.beq q (((l2.length:Int)-1).toNat)<;>rfl) (by kernel_rfl) ?_
     refine Zde [] (T:=[(1,I gap),(2,.ref 2 0),(7,.arr 707),(28,.arr 7214),(29,I (data'_1.length:Int)),(30,I t30)]) (O:=[(2,.box [Zae false boxes]),(707,Zdo 9213 ((l4.set (((l2.length:Int)-1).toNat) (Line.withItems (at_ l4 (((l2.length:Int)-1).toNat)) ([]:List Int))).set (((l2.length:Int)-1).toNat) (Line.mk ((at_ l4 (((l2.length:Int)-1).toNat)).Top) ((at_ l4 (((l2.length:Int)-1).toNat)).Bottom) ((at_ l4 (((l2.length:Int)-1).toNat)).Items++[(at_ data'_1 t30.toNat)])))),(7214,tAI data'_1),(9213,Zcv ((l4.set (((l2.length:Int)-1).toNat) (Line.withItems (at_ l4 (((l2.length:Int)-1).toNat)) ([]:List Int))).set (((l2.length:Int)-1).toNat) (Line.mk ((at_ l4 (((l2.length:Int)-1).toNat)).Top) ((at_ l4 (((l2.length:Int)-1).toNat)).Bottom) ((at_ l4 (((l2.length:Int)-1).toNat)).Items++[(at_ data'_1 t30.toNat)]))))]) rfl (⟨.inl rfl,.inl rfl,.inl rfl,.inl rfl,.inl rfl,.inl rfl,trivial⟩) (⟨.inl rfl,.inr ⟨rfl,rfl,(by first|rfl|(simp;done)),fun i_ hi_=> .inl (Zyn (P:=((l2.length:Int)-1).toNat) (xs:=(l4.set (((l2.length:Int)-1).toNat) (Line.withItems (at_ l4 (((l2.length:Int)-1).toNat)) ([]:List Int)))) (x':=(Line.mk ((at_ l4 (((l2.length:Int)-1).toNat)).Top) ((at_ l4 (((l2.length:Int)-1).toNat)).Bottom) ((at_ l4 (((l2.length:Int)-1).toNat)).Items++[(at_ data'_1 t30.toNat)]))) rfl i_ hi_)⟩,.inl rfl,.inr (Zja ((by first|omega|(simp only [List.length_set];omega))) (by first|rfl|(simp;done)|(simp;omega)) (fun i_ h_=>(show ∀i_:Nat,i_<(((at_ l4 (((l2.length:Int)-1).toNat)).Items++[(at_ data'_1 t30.toNat)]):List Int).length→(Zeg (((at_ l4 (((l2.length:Int)-1).toNat)).Items).length) (fI ((at_ l4 (((l2.length:Int)-1).toNat)).Items)) (Zeo [I (at_ data'_1 t30.toNat)] 1)) i_=(fI ((at_ l4 (((l2.length:Int)-1).toNat)).Items++[(at_ data'_1 t30.toNat)])) i_ from fun i_ hi_=>(Zdm (enc:=cI) (xs:=(at_ l4 (((l2.length:Int)-1).toNat)).Items) rfl i_ hi_)) i_ (by first|exact h_|(simpa using h_)))),trivial⟩) ?_
     refine x_r [] [1,2,7,28,29,30] [2,707,7214,9213] [I gap,.ref 2 0,.arr 707,.arr 7214,I (data'_1.length:Int),I (t30+1)] [some (.box [Zae false boxes]),some (Zdo 9213 ((l4.set (((l2.length:Int)-1).toNat) (Line.withItems (at_ l4 (((l2.length:Int)-1).toNat)) ([]:List Int))).set (((l2.length:Int)-1).toNat) (Line.mk ((at_ l4 (((l2.length:Int)-1).toNat)).Top) ((at_ l4 (((l2.length:Int)-1).toNat)).Bottom) ((at_ l4 (((l2.length:Int)-1).toNat)).Items++[(at_ data'_1 t30.toNat)])))),some (tAI data'_1),some (Zcv ((l4.set (((l2.length:Int)-1).toNat) (Line.withItems (at_ l4 (((l2.length:Int)-1).toNat)) ([]:List Int))).set (((l2.length:Int)-1).toNat) (Line.mk ((at_ l4 (((l2.length:Int)-1).toNat)).Top) ((at_ l4 (((l2.length:Int)-1).toNat)).Bottom) ((at_ l4 (((l2.length:Int)-1).toNat)).Items++[(at_ data'_1 t30.toNat)]))))] [inR .i64 (t30+1)] ⟨(Zaf om om),trivial⟩ ?_
     exact Zbu (((l4.set (((l2.length:Int)-1).toNat) (Line.withItems (at_ l4 (((l2.length:Int)-1).toNat)) ([]:List Int))).set (((l2.length:Int)-1).toNat) (Line.mk ((at_ l4 (((l2.length:Int)-1).toNat)).Top) ((at_ l4 (((l2.length:Int)-1).toNat)).Bottom) ((at_ l4 (((l2.length:Int)-1).toNat)).Items++[(at_ data'_1 t30.toNat)]))),(t30+1)) rfl (show (0≤(t30+1)∧(t30+1)≤(boxes.length:Int))∧(((l4.set (((l2.length:Int)-1).toNat) (Line.withItems (at_ l4 (((l2.length:Int)-1).toNat)) ([]:List Int))).set (((l2.length:Int)-1).toNat) (Line.mk ((at_ l4 (((l2.length:Int)-1).toNat)).Top) ((at_ l4 (((l2.length:Int)-1).toNat)).Bottom) ((at_ l4 (((l2.length:Int)-1).toNat)).Items++[(at_ data'_1 t30.toNat)])))=Zfl boxes gap (Zfk boxes) (t30+1).toNat)∧True from ⟨om,(by rw [hnx];show _=Zjc boxes gap (Zfl boxes gap (Zfk boxes) t30.toNat) (at_ (Zfk boxes) t30.toNat);rw [←hls,←hdi,hadd,List.set_set,h4,←hl4,List.set_set];unfold Zdq;rw [hPe]),trivial⟩) (by first|(show (((boxes.length:Int)-(t30+1)).toNat:Nat)<((boxes.length:Int)-t30).toNat;omega)|(dsimp only;omega))
    have hie2:t30.toNat=boxes.length:=by omega
    rw [hie2] at hls
    refine x_r [(0,.dec false)] [1,2,7,28,29,30,31] [2,707,7214,9213] [I gap,.ref 2 0,.arr 707,.arr 7214,I (data'_1.length:Int),I t30,Bv false] [some (.box [Zae false boxes]),some (Zdo 9213 ls),some (tAI data'_1),some (Zcv ls)] [_] ⟨h2,trivial⟩ (Zac (Zam (Zca rfl (Zcw (Zas ?_)))))
    refine Zaw ?_
    refine Zat (Zac (Zam ?_))
    refine xR [] [2,7,89,90,91] [2,707,9213] [.ref 2 0,.arr 707,.arr 707,I (ls.length:Int),I 0] [some (.box [Zae false boxes]),some (Zdo 9213 ls),some (Zcv ls)] [] trivial (Zbg ?_)
    refine Zdn (X:=Int×(List Line)) (fun x=>mkS [(2,.ref 2 0),(7,.arr 707),(89,.arr 707),(90,I (ls.length:Int)),(91,I x.1)] [(2,.box [Zae false boxes]),(707,Zdo 9213 x.2),(9213,Zcv x.2)]) (fun x=>(0≤x.1∧x.1≤(ls.length:Int))∧(x.2=Zpx boxes ls x.1.toNat)∧True) (fun x=>((ls.length:Int)-x.1).toNat) (0,ls) rfl (show (0≤(0:Int)∧(0:Int)≤(ls.length:Int))∧(ls=Zpx boxes ls (0:Int).toNat)∧True from ⟨om,(by rw [show (0:Int).toNat=0 from rfl,srtK_0]),trivial⟩) (fun x hI=> ?_)
    obtain ⟨t91,l3⟩:=x
    obtain ⟨hi2,hl3,_⟩:(0≤t91∧t91≤(ls.length:Int))∧(l3=Zpx boxes ls t91.toNat)∧True:=hI
    show XW _ _ _ _ (mkS [(2,.ref 2 0),(7,.arr 707),(89,.arr 707),(90,I (ls.length:Int)),(91,I t91)] [(2,.box [Zae false boxes]),(707,Zdo 9213 l3),(9213,Zcv l3)]) _ _
    refine Zam ?_
    by_cases h5:t91<(ls.length:Int)
    ·have hrr:t91.toNat<ls.length:=by omega
     have hlsn:=Zmb boxes gap (Zfk boxes) boxes.length
     rw [←hls] at hlsn
     have hl3n:l3.length=ls.length:=by rw [hl3,Zjd]
     have hnx:(t91+1).toNat=t91.toNat+1:=by omega
     have hat:at_ l3 t91.toNat=at_ ls t91.toNat:=by rw [hl3];exact srtK_at hrr
     have hmm:at_ ls t91.toNat∈ls:=Zbj hrr
     rw [←hat] at hmm
     have hsm:=lin_sm (gap:=gap) hp hs om _ (hls▸hmm)
     have hbb:=Znu (gap:=gap) hp (fun x hx=>Zfp.1 hx) boxes.length (by rw [Zdi];exact Nat.le_refl _) _ (hls▸hmm)
     refine x_r [(0,.dec true)] [2,7,89,90,91,92] [2,707,9213] [.ref 2 0,.arr 707,.arr 707,I (ls.length:Int),I t91,Bv true] [some (.box [Zae false boxes]),some (Zdo 9213 l3),some (Zcv l3)] [_] ⟨h5,trivial⟩ (Zac (Zam (Zgs rfl (Zbn (Zac (Zam (Zbg (Zam ?_))))))))
     refine Znt 707 7214 9213 t91.toNat (Zss l3) rfl rfl (om) (fun q _=>rfl) (fun _=>rfl) (by kernel_rfl) ?_
     refine Zde [] (T:=[(2,.ref 2 0),(7,.arr 707),(89,.arr 707),(90,I (ls.length:Int)),(91,I t91),(92,Bv true)]) (O:=[(2,.box [Zae false boxes]),(707,.oar [7214,9213] 3 l3.length (fun q=>bif Nat.beq q t91.toNat then [I ((at_ l3 t91.toNat).Top),I ((at_ l3 t91.toNat).Bottom),.arr 7214] else (Zek 9213 (l3.set t91.toNat (Line.withItems (at_ l3 t91.toNat) ([]:List Int)))) q)),(7214,tAI ((at_ l3 t91.toNat).Items)),(9213,Zcv (l3.set t91.toNat (Line.withItems (at_ l3 t91.toNat) ([]:List Int))))]) rfl (⟨.inl rfl,.inl rfl,.inl rfl,.inl rfl,.inl rfl,.inl rfl,trivial⟩) (⟨.inl rfl,.inr ⟨rfl,rfl,(by first|rfl|(simp;done)),fun i_ hi_=> .inl ((Zym _ i_).trans (AV.renL_nil _).symm)⟩,.inl rfl,.inr (Zja (om) (by first|rfl|(simp;done)|(simp;omega)) (fun i_ h_=>absurd h_ (Nat.not_lt_zero _))),trivial⟩) ?_
     refine x_q [(1,.as (.agg [I ((at_ l3 t91.toNat).Top),I ((at_ l3 t91.toNat).Bottom),.arr 7214])),(2,.new 14)] [2,7,14,89,90,91] [2,14,707,7214,9213] [(0:Int)≤t91∧t91<(l3.length:Int),t91.toNat<l3.length∧List.drop 0 ((fun q=>bif Nat.beq q t91.toNat then [I ((at_ l3 t91.toNat).Top),I ((at_ l3 t91.toNat).Bottom),.arr 7214] else (Zek 9213 (l3.set t91.toNat (Line.withItems (at_ l3 t91.toNat) ([]:List Int)))) q) t91.toNat)=[I ((at_ l3 t91.toNat).Top),I ((at_ l3 t91.toNat).Bottom),.arr 7214]] ⟨⟨om,om⟩,⟨om,(by simp only [Nat.beq_refl,cond_true];rfl)⟩,trivial⟩ (Zac ?_)
     obtain ⟨data'_2,hx2_0,hc2⟩:=Zvu ((at_ l3 t91.toNat).Items) boxes (by first|(rw [hol,hie1];exact sm_ixY hs)|exact hsm) (by first|(rw [hol,hie1];exact fun x hx=>Zpm.1 hx)|exact hbb.2.1)
     have hit:=hx2_0
     refine x_r [(3,.call [(true,.any)] false (.fn 80 [.ptr false [Zae false boxes]])),(4,.lend [(7214,tAI ((at_ l3 t91.toNat).Items),tAI data'_2)] [] [(true,.any),(true,.any)] true (.tup []))] [2,7,89,90,91] [2,707,7214,9213] [.ref 2 0,.arr 707,.arr 707,I (ls.length:Int),I t91] [some (.box [Zae false boxes]),some (.oar [7214,9213] 3 l3.length (fun q=>bif Nat.beq q t91.toNat then [I ((at_ l3 t91.toNat).Top),I ((at_ l3 t91.toNat).Bottom),.arr 7214] else (Zek 9213 (l3.set t91.toNat (Line.withItems (at_ l3 t91.toNat) ([]:List Int)))) q)),some (tAI data'_2),some (Zcv (l3.set t91.toNat (Line.withItems (at_ l3 t91.toNat) ([]:List Int))))] [_∧True,Zao Try.prog 66 [.arr 7214,.fn 80 [.ptr false [Zae false boxes]]] (Zab [(7214,tAI ((at_ l3 t91.toNat).Items))]) true (.tup []) (Zab [(7214,tAI data'_2)])∧(((tAI ((at_ l3 t91.toNat).Items):Ob)=tAI ((at_ l3 t91.toNat).Items)∨Zef Zdl true (tAI ((at_ l3 t91.toNat).Items)) (tAI ((at_ l3 t91.toNat).Items)))∧Zan false (tAI ((at_ l3 t91.toNat).Items)))∧True] ⟨⟨(Zhp boxes),trivial⟩,⟨hc2,⟨.inl rfl,fun _ _=>Zrg false _⟩,trivial⟩,trivial⟩ (Zbm 5 (Zac ?_))
     refine Zrc 707 7214 9213 t91.toNat (fun q=>bif Nat.beq q t91.toNat then [I ((at_ l3 t91.toNat).Top),I ((at_ l3 t91.toNat).Bottom)] else Zss (l3.set t91.toNat (Line.withItems (at_ l3 t91.toNat) ([]:List Int))) q) rfl rfl rfl ((by first|omega|(simp only [List.length_set];omega))) (by first|exact Nat.le_refl _|(simp;done)|omega) (fun q _=>⟨fun e=>by subst e;simp only [Nat.beq_refl,cond_true];rfl,fun e=>by simp only [Zjb e,cond_false];rfl⟩) (fun q=>by cases Nat.beq q t91.toNat<;>rfl) (by kernel_rfl) ?_
     refine Zde [] (T:=[(2,.ref 2 0),(7,.arr 707),(89,.arr 707),(90,I (ls.length:Int)),(91,I t91)]) (O:=[(2,.box [Zae false boxes]),(707,Zdo 9213 ((l3.set t91.toNat (Line.withItems (at_ l3 t91.toNat) ([]:List Int))).set t91.toNat (Line.mk ((at_ l3 t91.toNat).Top) ((at_ l3 t91.toNat).Bottom) data'_2))),(9213,Zcv ((l3.set t91.toNat (Line.withItems (at_ l3 t91.toNat) ([]:List Int))).set t91.toNat (Line.mk ((at_ l3 t91.toNat).Top) ((at_ l3 t91.toNat).Bottom) data'_2)))]) rfl (⟨.inl rfl,.inl rfl,.inl rfl,.inl rfl,.inl rfl,trivial⟩) (⟨.inl rfl,.inr ⟨rfl,rfl,(by first|rfl|(simp;done)),fun i_ hi_=> .inl (Zyn (P:=t91.toNat) (xs:=(l3.set t91.toNat (Line.withItems (at_ l3 t91.toNat) ([]:List Int)))) (x':=(Line.mk ((at_ l3 t91.toNat).Top) ((at_ l3 t91.toNat).Bottom) data'_2)) rfl i_ hi_)⟩,.inr (Zja ((by first|omega|(simp only [List.length_set];omega))) (by first|rfl|(simp;done)|(simp;omega)) (fun i _=>rfl)),trivial⟩) ?_
     refine x_r [] [2,7,89,90,91] [2,707,9213] [.ref 2 0,.arr 707,.arr 707,I (ls.length:Int),I (t91+1)] [some (.box [Zae false boxes]),some (Zdo 9213 ((l3.set t91.toNat (Line.withItems (at_ l3 t91.toNat) ([]:List Int))).set t91.toNat (Line.mk ((at_ l3 t91.toNat).Top) ((at_ l3 t91.toNat).Bottom) data'_2))),some (Zcv ((l3.set t91.toNat (Line.withItems (at_ l3 t91.toNat) ([]:List Int))).set t91.toNat (Line.mk ((at_ l3 t91.toNat).Top) ((at_ l3 t91.toNat).Bottom) data'_2)))] [inR .i64 (t91+1)] ⟨(Zaf om om),trivial⟩ ?_
     exact Zbu ((t91+1),((l3.set t91.toNat (Line.withItems (at_ l3 t91.toNat) ([]:List Int))).set t91.toNat (Line.mk ((at_ l3 t91.toNat).Top) ((at_ l3 t91.toNat).Bottom) data'_2))) rfl (show (0≤(t91+1)∧(t91+1)≤(ls.length:Int))∧(((l3.set t91.toNat (Line.withItems (at_ l3 t91.toNat) ([]:List Int))).set t91.toNat (Line.mk ((at_ l3 t91.toNat).Top) ((at_ l3 t91.toNat).Bottom) data'_2))=Zpx boxes ls (t91+1).toNat)∧True from ⟨(by (first|omega|(simp;omega))),(by rw [hnx,List.set_set,hit,hat,hl3];exact srtK_set hrr rfl),trivial⟩) (by first|(show (((ls.length:Int)-(t91+1)).toNat:Nat)<((ls.length:Int)-t91).toNat;omega)|(dsimp only;omega))
    have hfin:l3=Zmm boxes gap:=by rw [hl3,show t91.toNat=ls.length from by omega,srtK_end,hls];rfl
    refine x_r [(0,.dec false)] [2,7,89,90,91,92] [2,707,9213] [.ref 2 0,.arr 707,.arr 707,I (ls.length:Int),I t91,Bv false] [some (.box [Zae false boxes]),some (Zdo 9213 l3),some (Zcv l3)] [_] ⟨h5,trivial⟩ (Zac (Zam (Zca rfl (Zcw (Zas ?_)))))
    refine Zaw ?_
    refine Zat (Zac ?_)
    refine xR [] [4] [707,9213] [.arr 707] [some (Zdo 9213 l3),some (Zcv l3)] [] trivial (Zby ?_)
    refine Zbd l3 (show (l3=Zmm boxes gap)∧(True) from ⟨(by exact hfin),trivial⟩) (trivial) (.arr 707) (by kernel_rfl) (.inr ⟨(fun _=>rfl),rfl,rfl,oleLine _ _ rfl⟩) (fun _=>rfl) (fun _=>(tagLine true _))
  obtain ⟨v,⟨hh0,_⟩,hc⟩:=hh
  exact ⟨v,hh0,hc⟩
theorem Zhu (boxes:List Box) (lineGap:Int) (wordGap:Int) (hs:Zbp boxes=true→smB boxes):∃(v:List (List Int)) (c:Int),((v,c)=Zjm boxes lineGap wordGap)∧Con Try.prog 26 [Zae false boxes,I lineGap,I wordGap] true (.tup [Zcx true v,I c]):=by
  have hh:∃r:(List (List Int))×Int,(((r.1,r.2)=Zjm boxes lineGap wordGap)∧(True))∧Zao Try.prog 26 [Zae false boxes,I lineGap,I wordGap] (Zab []) true (.tup [Zcx true r.1,I r.2]) (Zab []):=by
    refine Zcp (Φ:=fun r:(List (List Int))×Int=>((r.1,r.2)=Zjm boxes lineGap wordGap)∧(True)) [] (fun r=>[]) (fn:=Try.f26) (nt:=39) Try.func26 rfl rfl (args:=[Zae false boxes,I lineGap,I wordGap]) rfl (Zap (.inl ⟨rfl,Zbo false _⟩) (Zap (.inl ⟨rfl,trivial⟩) (Zap (.inl ⟨rfl,trivial⟩) Zco))) (res:=fun r=> .tup [Zcx true r.1,I r.2]) ?_
    refine xQ [] [0,1,2] [] [] trivial (Zam (Zam ?_))
    rcases Bool.eq_false_or_eq_true (Zbp boxes) with h1|h1
    ·have hpp:=h1
     have hpn:=Zma h1
     have hsm:=hs h1
     refine x_q [(1,.call [(true,.any)] true (Bv true))] [0,1,2,13] [] [Con Try.prog 32 [Zae false boxes] true (Bv true)∧True] ⟨⟨(Zak h1 (Zgb boxes)),trivial⟩,trivial⟩ (Zac (Zhn (Zbn (Zac (Zam (Zam ?_))))))
     rcases Bool.eq_false_or_eq_true (inB lineGap 0 4095) with h2|h2
     ·have hlg:=h2
      have hlg2:=Zgk.1 h2
      rcases Bool.eq_false_or_eq_true (inB wordGap 0 4095) with h3|h3
      ·have hst:=ro_ok hpp hlg h3
       have hwg2:=Zgk.1 h3
       refine x_q [(1,.call [(true,.any)] true (Bv true)),(5,.call [(true,.any)] true (Bv true))] [0,1,2,21] [] [Con Try.prog 33 [I lineGap] true (Bv true)∧True,Con Try.prog 33 [I wordGap] true (Bv true)∧True] ⟨⟨(Zak h2 (Zfq lineGap)),trivial⟩,⟨(Zak h3 (Zfq wordGap)),trivial⟩,trivial⟩ (Zac (Zhn (Zbn (Zac ?_))))
       refine xR [] [0,1,2,8] [] [Zae false boxes,I lineGap,I wordGap,Zfj] [] [] trivial (Zam (Zam ?_))
       obtain ⟨v_1,hx1_0,hc1⟩:=Zmz boxes lineGap hpp om hsm
       have hL:=hx1_0
       have hnn:=linR_n (gap:=lineGap) hpp
       rw [←hL] at hnn
       refine x_r [(2,.call [(true,.any),(true,.any)] true (Zga true v_1))] [0,2,8,24,25,26] [] [Zae false boxes,I wordGap,Zfj,Zga true v_1,I (v_1.length:Int),I 0] [] [_∧True] ⟨⟨hc1,trivial⟩,trivial⟩ (Zac (Zbg ?_))
       refine Zwe 8 708 1 (fun _=>[]) (by kernel_rfl) ?_
       refine Zde [] (T:=[(0,Zae false boxes),(2,I wordGap),(8,.arr 708),(24,Zga true v_1),(25,I (v_1.length:Int)),(26,I 0)]) (O:=[(708,Zvy true ([]:List (List Int)))]) rfl (⟨.inl rfl,.inl rfl,.inl rfl,.inl rfl,.inl rfl,.inl rfl,trivial⟩) (⟨.inr ⟨rfl,(by first|rfl|(simp;done)|(simp;omega)|omega),fun i_ hi_=>absurd hi_ (Nat.not_lt_zero _)⟩,trivial⟩) ?_
       refine Zdn (X:=(List (List Int))×Int) (fun x=>mkS [(0,Zae false boxes),(2,I wordGap),(8,.arr 708),(24,Zga true v_1),(25,I (v_1.length:Int)),(26,I x.2)] [(708,Zvy true x.1)]) (fun x=>(0≤x.2∧x.2≤(v_1.length:Int))∧(x.1=rdW boxes wordGap (v_1.take x.2.toNat))∧((x.1.length:Int)≤60*x.2)∧True) (fun x=>((v_1.length:Int)-x.2).toNat) (([]:List (List Int)),0) rfl (show (0≤(0:Int)∧(0:Int)≤(v_1.length:Int))∧(([]:List (List Int))=rdW boxes wordGap (v_1.take (0:Int).toNat))∧((([]:List (List Int)).length:Int)≤60*(0:Int))∧True from ⟨om,(by rfl),(by simp),trivial⟩) (fun x hI=> ?_)
       obtain ⟨wd,t26⟩:=x
       obtain ⟨hi0,hwd,hwn,_⟩:(0≤t26∧t26≤(v_1.length:Int))∧(wd=rdW boxes wordGap (v_1.take t26.toNat))∧((wd.length:Int)≤60*t26)∧True:=hI
       show XW _ _ _ _ (mkS [(0,Zae false boxes),(2,I wordGap),(8,.arr 708),(24,Zga true v_1),(25,I (v_1.length:Int)),(26,I t26)] [(708,Zvy true wd)]) _ _
       refine Zam ?_
       by_cases h4:t26<(v_1.length:Int)
       ·have hi:t26.toNat<v_1.length:=by omega
        have hnx:(t26+1).toNat=t26.toNat+1:=by omega
        have hln:=hnn.1 _ (Zbj hi)
        have hin:=hln.1
        refine x_q [(0,.dec true)] [0,2,8,24,25,26,27] [708] [_] ⟨h4,trivial⟩ (Zac (Zam (Zel (Zbn (Zac (Zam (Zbg ?_)))))))
        refine xQ [(2,.new 10)] [0,2,8,10,24,25,26] [10,708] [(0:Int)≤t26∧t26<(v_1.length:Int)] ⟨⟨om,om⟩,trivial⟩ ?_
        obtain ⟨v_2,hx2_0,hc2⟩:=Zhq boxes ((at_ v_1 t26.toNat).Items) wordGap hpp hln.2.1 om
        have hwv:=hx2_0
        have hwl:=Zio boxes ((at_ v_1 t26.toNat).Items) wordGap
        rw [←hwv] at hwl
        refine x_q [(5,.call [(true,.any),(false,slI false ((at_ v_1 t26.toNat).Items)),(true,.any)] true (Zcx true v_2)),(6,.new 36)] [0,2,8,24,25,26] [36] [_∧((false=true→true=true)∧1=1∧(((at_ v_1 t26.toNat).Items).length)=(((at_ v_1 t26.toNat).Items).length)∧∀i_,i_<(((at_ v_1 t26.toNat).Items).length)→(fI ((at_ v_1 t26.toNat).Items)) i_=(fI ((at_ v_1 t26.toNat).Items)) i_∨(AV.idsL ((fI ((at_ v_1 t26.toNat).Items)) i_)=[]∧leL (fun _=>none) false ((fI ((at_ v_1 t26.toNat).Items)) i_) ((fI ((at_ v_1 t26.toNat).Items)) i_)))∧True,(wd.length+v_2.length)*24≤140737488355328] ⟨⟨hc2,⟨(fun h=>by cases h),rfl,rfl,fun i _=> .inl rfl⟩,trivial⟩,om,trivial⟩ (Zbm 1 (Zac ?_))
        refine x_r [] [0,2,8,24,25,26] [36] [Zae false boxes,I wordGap,.arr 36,Zga true v_1,I (v_1.length:Int),I (t26+1)] [some (.arr 1 (wd.length+v_2.length) (Zeg wd.length (fLI true wd) (fLI true v_2)))] [inR .i64 (t26+1)] ⟨(Zaf om om),trivial⟩ ?_
        refine Zcb [(708,36)] (T:=[(0,Zae false boxes),(2,I wordGap),(8,.arr 708),(24,Zga true v_1),(25,I (v_1.length:Int)),(26,I (t26+1))]) (O:=[(708,Zvy true (wd++v_2))]) rfl (⟨.inl rfl,.inl rfl,.inl rfl,.inl rfl,.inl rfl,.inl rfl,trivial⟩) (⟨.inr ⟨rfl,(by first|rfl|(simp;done)|(simp;omega)|omega),fun i_ hi_=> .inl (Zwg (enc:=(cLI true)) (xs:=wd) i_ hi_)⟩,trivial⟩) (Zbu ((wd++v_2),(t26+1)) rfl (show (0≤(t26+1)∧(t26+1)≤(v_1.length:Int))∧((wd++v_2)=rdW boxes wordGap (v_1.take (t26+1).toNat))∧(((wd++v_2).length:Int)≤60*(t26+1))∧True from ⟨om,(by rw [hnx,Zuj hi,←hwd,←hwv]),(by rw [List.length_append];omega),trivial⟩) (by first|(show (((v_1.length:Int)-(t26+1)).toNat:Nat)<((v_1.length:Int)-t26).toNat;omega)|(dsimp only;omega)))
       have hfin:wd=rdW boxes wordGap (Zmm boxes lineGap):=by rw [hwd,show t26.toNat=v_1.length from by omega,List.take_length,hL]
       refine x_r [(0,.dec false)] [0,2,8,24,25,26,27] [708] [Zae false boxes,I wordGap,.arr 708,Zga true v_1,I (v_1.length:Int),I t26,Bv false] [some (Zvy true wd)] [_] ⟨h4,trivial⟩ (Zac (Zam (Zca rfl (Zcw (Zas ?_)))))
       refine Zaw ?_
       refine Zat (Zac ?_)
       refine xR [] [6,7] [708] [.arr 708,I 0] [some (Zvy true wd)] [] trivial (Zby ?_)
       refine Zbd (wd,0) (show ((wd,0)=Zjm boxes lineGap wordGap)∧(True) from ⟨(by first|exact hst.symm|(rw [hst,hfin])),trivial⟩) (trivial) (.tup [.arr 708,I 0]) (by kernel_rfl) (.inr ⟨⟨(fun _=>rfl),rfl,rfl,fun i _=> .inl rfl⟩,⟨rfl,rfl⟩⟩) (fun _=>rfl) (fun _=>(by simp [Zah,Zag,Zgl]))
      have hst:=Zuk (lg:=lineGap) hpp (.inr h3)
      refine x_q [(1,.call [(true,.any)] true (Bv true)),(5,.call [(true,.any)] true (Bv false))] [0,1,2,21] [] [Con Try.prog 33 [I lineGap] true (Bv true)∧True,Con Try.prog 33 [I wordGap] true (Bv false)∧True] ⟨⟨(Zak h2 (Zfq lineGap)),trivial⟩,⟨(Zak h3 (Zfq wordGap)),trivial⟩,trivial⟩ (Zac (Zel ?_))
      refine xR [] [6,7] [] [Zfj,I 2] [] [] trivial (Zby (Zbc ?_))
      refine Zbd (([]:List (List Int)),2) (show ((([]:List (List Int)),2)=Zjm boxes lineGap wordGap)∧(True) from ⟨(by first|exact hst.symm|(rw [hst,hfin])),trivial⟩) (trivial) (.tup [Zfj,I 2]) (by kernel_rfl) (.inr ⟨⟨rfl,rfl⟩,⟨rfl,rfl⟩⟩) (fun _=>rfl) (fun _=>(by simp [Zah,Zag,Zgl]))
     have hst:=Zuk (wg:=wordGap) hpp (.inl h2)
     refine x_q [(1,.call [(true,.any)] true (Bv false))] [0,1,2,21] [] [Con Try.prog 33 [I lineGap] true (Bv false)∧True] ⟨⟨(Zak h2 (Zfq lineGap)),trivial⟩,trivial⟩ (Zac (Zel ?_))
     refine xR [] [6,7] [] [Zfj,I 2] [] [] trivial (Zby (Zbc ?_))
     refine Zbd (([]:List (List Int)),2) (show ((([]:List (List Int)),2)=Zjm boxes lineGap wordGap)∧(True) from ⟨(by first|exact hst.symm|(rw [hst,hfin])),trivial⟩) (trivial) (.tup [Zfj,I 2]) (by kernel_rfl) (.inr ⟨⟨rfl,rfl⟩,⟨rfl,rfl⟩⟩) (fun _=>rfl) (fun _=>(by simp [Zah,Zag,Zgl]))
    have hst:=ro_inv (lg:=lineGap) (wg:=wordGap) h1
    refine x_q [(1,.call [(true,.any)] true (Bv false))] [0,1,2,13] [] [Con Try.prog 32 [Zae false boxes] true (Bv false)∧True] ⟨⟨(Zak h1 (Zgb boxes)),trivial⟩,trivial⟩ (Zac (Zel ?_))
    refine xR [] [6,7] [] [Zfj,I 1] [] [] trivial (Zby (Zbc ?_))
    refine Zbd (([]:List (List Int)),1) (show ((([]:List (List Int)),1)=Zjm boxes lineGap wordGap)∧(True) from ⟨(by first|exact hst.symm|(rw [hst,hfin])),trivial⟩) (trivial) (.tup [Zfj,I 1]) (by kernel_rfl) (.inr ⟨⟨rfl,rfl⟩,⟨rfl,rfl⟩⟩) (fun _=>rfl) (fun _=>(by simp [Zah,Zag,Zgl]))
  obtain ⟨⟨v,c⟩,⟨hh0,_⟩,hc⟩:=hh
  exact ⟨v,c,hh0,hc⟩
theorem Zst (boxes:List Box) (gap:Int) (hp:Zbp boxes=true) (hg:0≤gap∧gap≤4095):∃(lns:List Line),(lns=Zmm boxes gap)∧Zao Try.prog 37 [Zae false boxes,I gap] (Zab []) false (.arr 9223) (Zab [(9223,Zdj true lns)]):=by
  have hpn:=Zma hp
  have hh:∃r:(List Line),((r=Zmm boxes gap)∧(True))∧Zao Try.prog 37 [Zae false boxes,I gap] (Zab []) false (.arr 9223) (Zab [(9223,Zdj true r)]):=by
    refine Zcp (Φ:=fun r:(List Line)=>(r=Zmm boxes gap)∧(True)) [] (fun r=>[(9223,Zdj true r)]) (fn:=Try.f37) (nt:=93) Try.func37 rfl rfl (args:=[Zae false boxes,I gap]) rfl (Zap (.inl ⟨rfl,Zbo false _⟩) (Zap (.inl ⟨rfl,trivial⟩) Zco)) (res:=fun r=> .arr 9223) ?_
    refine xQ [] [0,1] [] [] trivial ?_
    refine xQ [(0,.new 12)] [0,1,5] [12] [] trivial (Zam ?_)
    refine xR [] [0,1,5,6] [12] [Zae false boxes,I gap,.arr 12,I 0] [some (.arr 1 0 (Zeo [] 1))] [] trivial (Zbg ?_)
    refine Zde [] (T:=[(0,Zae false boxes),(1,I gap),(5,.arr 12),(6,I 0)]) (O:=[(12,tAI ([]:List Int))]) rfl (⟨.inl rfl,.inl rfl,.inl rfl,.inl rfl,trivial⟩) (⟨.inr ⟨rfl,(by first|rfl|(simp;done)|(simp;omega)|omega),fun i_ hi_=>absurd hi_ (Nat.not_lt_zero _)⟩,trivial⟩) ?_
    refine Zdn (X:=(List Int)×Int) (fun x=>mkS [(0,Zae false boxes),(1,I gap),(5,.arr 12),(6,I x.2)] [(12,tAI x.1)]) (fun x=>(0≤x.2∧x.2≤(boxes.length:Int))∧(x.1=Zci (cH boxes) (ixL boxes.length) x.2.toNat)∧True) (fun x=>((boxes.length:Int)-x.2).toNat) (([]:List Int),0) rfl (show (0≤(0:Int)∧(0:Int)≤(boxes.length:Int))∧(([]:List Int)=Zci (cH boxes) (ixL boxes.length) (0:Int).toNat)∧True from ⟨om,(by rfl),trivial⟩) (fun x hI=> ?_)
    obtain ⟨od,k⟩:=x
    obtain ⟨hi0,hod,_⟩:(0≤k∧k≤(boxes.length:Int))∧(od=Zci (cH boxes) (ixL boxes.length) k.toNat)∧True:=hI
    show XW _ _ _ _ (mkS [(0,Zae false boxes),(1,I gap),(5,.arr 12),(6,I k)] [(12,tAI od)]) _ _
    refine Zam (Zam ?_)
    by_cases h1:k<(boxes.length:Int)
    ·have hi:k.toNat<boxes.length:=by omega
     have hnx:(k+1).toNat=k.toNat+1:=by omega
     have hix:(k.toNat:Int)=k:=by omega
     have hodn:od.length=k.toNat:=by rw [hod,Zem]
     have hodx:Zvv boxes.length od:=by rw [hod];intro x hx;exact Zlw (Q:=fun x=>0≤x∧x<(boxes.length:Int)) (fun x hx=>Zpm.1 hx) _ (by rw [Zdu];omega) x hx
     refine x_q [(3,.dec true)] [0,1,5,6,16] [12] [_] ⟨h1,trivial⟩ (Zac (Zel (Zbn (Zac (Zam (Zbg ?_))))))
     obtain ⟨out_1,hx1_0,hc1⟩:=Zjy boxes od k true om om (by first|exact hodx|exact hlix)
     have hpt:=hx1_0
     have hptl:out_1.length=od.length+1:=by rw [hpt];exact Zsu _ _
     refine x_q [(3,.lend [] [(8221,tAI out_1)] [(true,.any),(false,slI false od),(true,.any),(true,.any)] false (.arr 8221))] [0,1,5,6] [8221] [Zao Try.prog 69 [Zae false boxes,slI false od,I k,Bv true] (Zab []) false (.arr 8221) (Zab [(8221,tAI out_1)])∧((false=true→true=true)∧1=1∧od.length=od.length∧∀i_,i_<od.length→(fI od) i_=(fI od) i_∨(AV.idsL ((fI od) i_)=[]∧leL (fun _=>none) false ((fI od) i_) ((fI od) i_)))∧True] ⟨⟨hc1,⟨(fun h=>by cases h),rfl,rfl,fun i _=> .inl rfl⟩,trivial⟩,trivial⟩ (Zbm 1 (Zac ?_))
     refine x_r [] [0,1,5,6] [8221] [Zae false boxes,I gap,.arr 8221,I (k+1)] [some (tAI out_1)] [inR .i64 (k+1)] ⟨(Zaf om om),trivial⟩ ?_
     refine Zcb [(12,8221)] (T:=[(0,Zae false boxes),(1,I gap),(5,.arr 12),(6,I (k+1))]) (O:=[(12,tAI out_1)]) rfl (⟨.inl rfl,.inl rfl,.inl rfl,.inl rfl,trivial⟩) (⟨.inl rfl,trivial⟩) (Zbu (out_1,(k+1)) rfl (show (0≤(k+1)∧(k+1)≤(boxes.length:Int))∧(out_1=Zci (cH boxes) (ixL boxes.length) (k+1).toNat)∧True from ⟨om,(by rw [hnx,hpt,if_pos rfl,Zci,Zhg hi,hix,←hod]),trivial⟩) (by first|(show (((boxes.length:Int)-(k+1)).toNat:Nat)<((boxes.length:Int)-k).toNat;omega)|(dsimp only;omega)))
    have hie:k.toNat=boxes.length:=by omega
    rw [hie,ordH_Y] at hod
    have hodl:od.length=boxes.length:=by rw [hod,Zdi]
    refine x_r [(3,.dec false)] [0,1,5,6,16] [12] [Zae false boxes,I gap,.arr 12,I k,Bv false] [some (tAI od)] [_] ⟨h1,trivial⟩ (Zac (Zca rfl (Zcw (Zas ?_))))
    refine Zaw ?_
    refine Zat (Zac ?_)
    refine xQ [(0,.new 23)] [0,1,5,7] [12,23] [] trivial (Zam ?_)
    refine xR [] [0,1,5,7,8] [12,23] [Zae false boxes,I gap,.arr 12,.arr 23,I 0] [some (tAI od),some (.arr 3 0 (Zeo [] 3))] [] trivial (Zbg ?_)
    refine Zde [] (T:=[(0,Zae false boxes),(1,I gap),(5,.arr 12),(7,.arr 23),(8,I 0)]) (O:=[(12,tAI od),(23,Zdj true ([]:List Line))]) rfl (⟨.inl rfl,.inl rfl,.inl rfl,.inl rfl,.inl rfl,trivial⟩) (⟨.inl rfl,.inr ⟨rfl,(by first|rfl|(simp;done)|(simp;omega)|omega),fun i_ hi_=>absurd hi_ (Nat.not_lt_zero _)⟩,trivial⟩) ?_
    refine Zdn (X:=(List Line)×Int) (fun x=>mkS [(0,Zae false boxes),(1,I gap),(5,.arr 12),(7,.arr 23),(8,I x.2)] [(12,tAI od),(23,Zdj true x.1)]) (fun x=>(0≤x.2∧x.2≤(od.length:Int))∧(x.1=(Zfl boxes gap (Zfk boxes) x.2.toNat).map (Zhr boxes))∧True) (fun x=>((od.length:Int)-x.2).toNat) (([]:List Line),0) rfl (show (0≤(0:Int)∧(0:Int)≤(od.length:Int))∧(([]:List Line)=(Zfl boxes gap (Zfk boxes) (0:Int).toNat).map (Zhr boxes))∧True from ⟨om,(by rfl),trivial⟩) (fun x hI=> ?_)
    obtain ⟨out,i⟩:=x
    obtain ⟨hi1,hout,_⟩:(0≤i∧i≤(od.length:Int))∧(out=(Zfl boxes gap (Zfk boxes) i.toNat).map (Zhr boxes))∧True:=hI
    show XW _ _ _ _ (mkS [(0,Zae false boxes),(1,I gap),(5,.arr 12),(7,.arr 23),(8,I i)] [(12,tAI od),(23,Zdj true out)]) _ _
    refine Zam (Zam ?_)
    by_cases h2:i<(od.length:Int)
    ·have hi:i.toNat<boxes.length:=by omega
     have hnx:(i+1).toNat=i.toNat+1:=by omega
     have hdi:(at_ od i.toNat)=at_ (Zfk boxes) i.toNat:=by rw [hod]
     have hik:0≤(at_ od i.toNat)∧(at_ od i.toNat)<(boxes.length:Int):=by rw [hdi];exact Zyj hi
     have hbk:=Zfe hp (j:=(at_ od i.toNat).toNat) om
     have hlb:∀l∈(Zfl boxes gap (Zfk boxes) i.toNat),lnB boxes i.toNat l:=Znu hp (fun x hx=>Zfp.1 hx) _ (by rw [Zdi];omega)
     have hll:(Zfl boxes gap (Zfk boxes) i.toNat).length≤i.toNat:=Zmb _ _ _ _
     have hon:out.length=(Zfl boxes gap (Zfk boxes) i.toNat).length:=by rw [hout,List.length_map]
     refine x_q [(3,.dec true)] [0,1,5,7,8,27] [12,23] [_] ⟨h2,trivial⟩ (Zac (Zel (Zbn (Zac (Zam (Zbg ?_))))))
     refine xQ [(7,.new 9)] [0,1,5,7,8,9] [9,12,23] [(0:Int)≤i∧i<(od.length:Int),i.toNat<od.length,(0:Int)≤(at_ od i.toNat)∧(at_ od i.toNat)<(boxes.length:Int)] ⟨⟨om,om⟩,om,⟨om,om⟩,trivial⟩ ?_
     refine xQ [] [0,1,5,7,8,9,10] [9,12,23] [] trivial (Zam (Zam ?_))
     by_cases h3:(out.length:Int)=0
     ·have hay:=add_y (bs:=boxes) (gap:=gap) (ls:=(Zfl boxes gap (Zfk boxes) i.toNat)) (k:=(at_ od i.toNat)) (.inl om)
      rw [←hout] at hay
      refine x_r [(1,.dec true)] [0,1,5,7,8,9,10,53] [9,12,23] [Zae false boxes,I gap,.arr 12,.arr 23,I i,.ref 9 0,I (out.length:Int),Bv true] [some (Zhf (at_ boxes ((at_ od i.toNat).toNat))),some (tAI od),some (Zdj true out)] [_] ⟨h3,trivial⟩ (Zac (Zgs rfl (Zam ?_)))
      refine Zde [] (T:=[(0,Zae false boxes),(1,I gap),(5,.arr 12),(7,.arr 23),(8,I i),(9,.ref 9 0),(10,I (out.length:Int)),(53,Bv true)]) (O:=[(9,Zhf (at_ boxes ((at_ od i.toNat).toNat))),(12,tAI od),(23,.oar [] 3 out.length (Zfu true out))]) rfl (⟨.inl rfl,.inl rfl,.inl rfl,.inl rfl,.inl rfl,.inl rfl,.inl rfl,.inl rfl,trivial⟩) (⟨.inl rfl,.inl rfl,.inr ⟨rfl,rfl,fun i hi=>rfl⟩,trivial⟩) ?_
      refine x_q [(9,.new 63),(11,.new 65),(12,.new 66)] [0,1,5,7,8] [12,63,66] [(0:Int)≤i∧i<(od.length:Int),i.toNat<od.length,(out.length+1)*40≤140737488355328] ⟨⟨om,om⟩,om,om,trivial⟩ (Zac (Zcw (Zas (Zat (Zac ?_)))))
      refine x_r [] [0,1,5,7,8] [12,63,66] [Zae false boxes,I gap,.arr 12,.arr 66,I (i+1)] [some (tAI od),some (.arr 1 1 (Zeo [I (at_ od i.toNat)] 1)),some (.oar [63] 3 (out.length+1) (Zeg out.length (Zfu true out) (Zeo [I ((at_ boxes ((at_ od i.toNat).toNat)).Y1),I ((at_ boxes ((at_ od i.toNat).toNat)).Y2),.arr 63] 3)))] [inR .i64 (i+1)] ⟨(Zaf om om),trivial⟩ ?_
      refine Zcb [(23,66)] (T:=[(0,Zae false boxes),(1,I gap),(5,.arr 12),(7,.arr 23),(8,I (i+1))]) (O:=[(12,tAI od),(23,Zdj true (out++[(Line.mk ((at_ boxes ((at_ od i.toNat).toNat)).Y1) ((at_ boxes ((at_ od i.toNat).toNat)).Y2) ([(at_ od i.toNat)]))]))]) rfl (⟨.inl rfl,.inl rfl,.inl rfl,.inl rfl,.inl rfl,trivial⟩) (⟨.inl rfl,.inr ⟨rfl,(by simp),Zul out (Line.mk ((at_ boxes ((at_ od i.toNat).toNat)).Y1) ((at_ boxes ((at_ od i.toNat).toNat)).Y2) ([(at_ od i.toNat)])) ⟨rfl,⟨rfl,⟨⟨(fun _=>rfl),rfl,(by first|rfl|(simp;done)|(simp;omega)|omega),fun i_ hi_=> .inl (match i_,hi_ with|0,_=>rfl|(i+1),h=>absurd h (by simp))⟩,rfl⟩⟩⟩⟩,trivial⟩) (Zbu ((out++[(Line.mk ((at_ boxes ((at_ od i.toNat).toNat)).Y1) ((at_ boxes ((at_ od i.toNat).toNat)).Y2) ([(at_ od i.toNat)]))]),(i+1)) rfl (show (0≤(i+1)∧(i+1)≤(od.length:Int))∧((out++[(Line.mk ((at_ boxes ((at_ od i.toNat).toNat)).Y1) ((at_ boxes ((at_ od i.toNat).toNat)).Y2) ([(at_ od i.toNat)]))])=(Zfl boxes gap (Zfk boxes) (i+1).toNat).map (Zhr boxes))∧True from ⟨om,(by rw [hnx];show _=(Zjc boxes gap (Zfl boxes gap (Zfk boxes) i.toNat) (at_ (Zfk boxes) i.toNat)).map (Zhr boxes);rw [←hdi];first|exact hay.symm|(rw [han,hpt,if_neg (by decide)])),trivial⟩) (by first|(show (((od.length:Int)-(i+1)).toNat:Nat)<((od.length:Int)-i).toNat;omega)|(dsimp only;omega)))
     have hal:at_ out ((out.length:Int)-1).toNat=Zhr boxes (Zdq (Zfl boxes gap (Zfk boxes) i.toNat)):=by rw [hout,show (((((Zfl boxes gap (Zfk boxes) i.toNat).map (Zhr boxes)).length:Nat):Int)-1).toNat=(Zfl boxes gap (Zfk boxes) i.toNat).length-1 from by rw [List.length_map];omega,Zum om];rfl
     have hlq:=hlb _ (Zkx (ls:=(Zfl boxes gap (Zfk boxes) i.toNat)) om)
     have hlq1:=hlq.1
     have hbt:(at_ out ((out.length:Int)-1).toNat).Bottom=(Zdq (Zfl boxes gap (Zfk boxes) i.toNat)).Bottom:=by rw [hal];rfl
     have hlix:Zvv boxes.length (at_ out ((out.length:Int)-1).toNat).Items:=by rw [hal];exact ix_perm hlq.2.1
     have hlin:(at_ out ((out.length:Int)-1).toNat).Items.length≤60:=by rw [hal];show (Zci _ _ _).length≤60;rw [Zem];have:=hlq.2.2;omega
     by_cases h4:(((at_ out (((out.length:Int)-1).toNat)).Bottom)+gap)<((at_ boxes ((at_ od i.toNat).toNat)).Y1)
     ·have hay:=add_y (bs:=boxes) (gap:=gap) (ls:=(Zfl boxes gap (Zfk boxes) i.toNat)) (k:=(at_ od i.toNat)) (.inr (by rw [←hbt];exact h4))
      rw [←hout] at hay
      refine x_r [(1,.dec false),(13,.dec true)] [0,1,5,7,8,9,10,53] [9,12,23] [Zae false boxes,I gap,.arr 12,.arr 23,I i,.ref 9 0,I (out.length:Int),Bv true] [some (Zhf (at_ boxes ((at_ od i.toNat).toNat))),some (tAI od),some (Zdj true out)] [_,inR .i64 ((out.length:Int)-1),(0:Int)≤((out.length:Int)-1)∧((out.length:Int)-1)<(out.length:Int),((out.length:Int)-1).toNat<out.length,inR .i64 (((at_ out (((out.length:Int)-1).toNat)).Bottom)+gap),_] ⟨h3,(Zaf om om),⟨om,om⟩,om,(Zaf om om),h4,trivial⟩ (Zac (Zgs rfl (Zam ?_)))
      refine Zde [] (T:=[(0,Zae false boxes),(1,I gap),(5,.arr 12),(7,.arr 23),(8,I i),(9,.ref 9 0),(10,I (out.length:Int)),(53,Bv true)]) (O:=[(9,Zhf (at_ boxes ((at_ od i.toNat).toNat))),(12,tAI od),(23,.oar [] 3 out.length (Zfu true out))]) rfl (⟨.inl rfl,.inl rfl,.inl rfl,.inl rfl,.inl rfl,.inl rfl,.inl rfl,.inl rfl,trivial⟩) (⟨.inl rfl,.inl rfl,.inr ⟨rfl,rfl,fun i hi=>rfl⟩,trivial⟩) ?_
      refine x_q [(9,.new 63),(11,.new 65),(12,.new 66)] [0,1,5,7,8] [12,63,66] [(0:Int)≤i∧i<(od.length:Int),i.toNat<od.length,(out.length+1)*40≤140737488355328] ⟨⟨om,om⟩,om,om,trivial⟩ (Zac (Zcw (Zas (Zat (Zac ?_)))))
      refine x_r [] [0,1,5,7,8] [12,63,66] [Zae false boxes,I gap,.arr 12,.arr 66,I (i+1)] [some (tAI od),some (.arr 1 1 (Zeo [I (at_ od i.toNat)] 1)),some (.oar [63] 3 (out.length+1) (Zeg out.length (Zfu true out) (Zeo [I ((at_ boxes ((at_ od i.toNat).toNat)).Y1),I ((at_ boxes ((at_ od i.toNat).toNat)).Y2),.arr 63] 3)))] [inR .i64 (i+1)] ⟨(Zaf om om),trivial⟩ ?_
      refine Zcb [(23,66)] (T:=[(0,Zae false boxes),(1,I gap),(5,.arr 12),(7,.arr 23),(8,I (i+1))]) (O:=[(12,tAI od),(23,Zdj true (out++[(Line.mk ((at_ boxes ((at_ od i.toNat).toNat)).Y1) ((at_ boxes ((at_ od i.toNat).toNat)).Y2) ([(at_ od i.toNat)]))]))]) rfl (⟨.inl rfl,.inl rfl,.inl rfl,.inl rfl,.inl rfl,trivial⟩) (⟨.inl rfl,.inr ⟨rfl,(by simp),Zul out (Line.mk ((at_ boxes ((at_ od i.toNat).toNat)).Y1) ((at_ boxes ((at_ od i.toNat).toNat)).Y2) ([(at_ od i.toNat)])) ⟨rfl,⟨rfl,⟨⟨(fun _=>rfl),rfl,(by first|rfl|(simp;done)|(simp;omega)|omega),fun i_ hi_=> .inl (match i_,hi_ with|0,_=>rfl|(i+1),h=>absurd h (by simp))⟩,rfl⟩⟩⟩⟩,trivial⟩) (Zbu ((out++[(Line.mk ((at_ boxes ((at_ od i.toNat).toNat)).Y1) ((at_ boxes ((at_ od i.toNat).toNat)).Y2) ([(at_ od i.toNat)]))]),(i+1)) rfl (show (0≤(i+1)∧(i+1)≤(od.length:Int))∧((out++[(Line.mk ((at_ boxes ((at_ od i.toNat).toNat)).Y1) ((at_ boxes ((at_ od i.toNat).toNat)).Y2) ([(at_ od i.toNat)]))])=(Zfl boxes gap (Zfk boxes) (i+1).toNat).map (Zhr boxes))∧True from ⟨om,(by rw [hnx];show _=(Zjc boxes gap (Zfl boxes gap (Zfk boxes) i.toNat) (at_ (Zfk boxes) i.toNat)).map (Zhr boxes);rw [←hdi];first|exact hay.symm|(rw [han,hpt,if_neg (by decide)])),trivial⟩) (by first|(show (((od.length:Int)-(i+1)).toNat:Nat)<((od.length:Int)-i).toNat;omega)|(dsimp only;omega)))
     have han:=add_n (bs:=boxes) (gap:=gap) (ls:=(Zfl boxes gap (Zfk boxes) i.toNat)) (os:=out) (k:=(at_ od i.toNat)) (fun q=>by rcases q with q|q;omega;(rw [←hbt] at q;exact h4 q)) hout (p:=((out.length:Int)-1).toNat) om
     refine x_q [(1,.dec false),(13,.dec false)] [0,1,5,7,8,9,10,53] [9,12,23] [_,inR .i64 ((out.length:Int)-1),(0:Int)≤((out.length:Int)-1)∧((out.length:Int)-1)<(out.length:Int),((out.length:Int)-1).toNat<out.length,inR .i64 (((at_ out (((out.length:Int)-1).toNat)).Bottom)+gap),_] ⟨h3,(Zaf om om),⟨om,om⟩,om,(Zaf om om),h4,trivial⟩ (Zac (Zhn (Zbn (Zac ?_))))
     refine xR [(5,.new 11)] [0,1,5,7,8,9,10,11] [9,11,12,23] [Zae false boxes,I gap,.arr 12,.arr 23,I i,.ref 9 0,I (out.length:Int),.ref 11 0] [some (Zhf (at_ boxes ((at_ od i.toNat).toNat))),some (Zyo (at_ out (((out.length:Int)-1).toNat))),some (tAI od),some (Zdj true out)] [inR .i64 ((out.length:Int)-1),(0:Int)≤((out.length:Int)-1)∧((out.length:Int)-1)<(out.length:Int),((out.length:Int)-1).toNat<out.length] ⟨(Zaf om om),⟨om,om⟩,om,trivial⟩ ?_
     refine Zde [] (T:=[(0,Zae false boxes),(1,I gap),(5,.arr 12),(7,.arr 23),(8,I i),(9,.ref 9 0),(10,I (out.length:Int)),(11,.ref 11 0)]) (O:=[(9,Zhf (at_ boxes ((at_ od i.toNat).toNat))),(11,Zyo (at_ out (((out.length:Int)-1).toNat))),(12,tAI od),(23,.oar [] 3 out.length (Zfu true out))]) rfl (⟨.inl rfl,.inl rfl,.inl rfl,.inl rfl,.inl rfl,.inl rfl,.inl rfl,.inl rfl,trivial⟩) (⟨.inl rfl,.inl rfl,.inl rfl,.inr ⟨rfl,rfl,fun i hi=>rfl⟩,trivial⟩) ?_
     obtain ⟨out_2,hx2_0,hc2⟩:=Zjy boxes ((at_ out (((out.length:Int)-1).toNat)).Items) (at_ od i.toNat) false om om (by first|exact hodx|exact hlix)
     have hpt:=hx2_0
     have hptl:out_2.length=((at_ out (((out.length:Int)-1).toNat)).Items).length+1:=by rw [hpt];exact Zsu _ _
     refine x_q [(9,.call [(true,.any),(true,.any)] true (I (max ((at_ out (((out.length:Int)-1).toNat)).Bottom) ((at_ boxes ((at_ od i.toNat).toNat)).Y2)))),(17,.lend [] [(8221,tAI out_2)] [(true,.any),(false,slI false ((at_ out (((out.length:Int)-1).toNat)).Items)),(true,.any),(true,.any)] false (.arr 8221))] [0,1,5,7,8] [12,23,8221] [inR .i64 ((out.length:Int)-1),_∧True,(0:Int)≤i∧i<(od.length:Int),i.toNat<od.length,Zao Try.prog 69 [Zae false boxes,slI false ((at_ out (((out.length:Int)-1).toNat)).Items),I (at_ od i.toNat),Bv false] (Zab []) false (.arr 8221) (Zab [(8221,tAI out_2)])∧((false=true→true=true)∧1=1∧(((at_ out (((out.length:Int)-1).toNat)).Items).length)=(((at_ out (((out.length:Int)-1).toNat)).Items).length)∧∀i_,i_<(((at_ out (((out.length:Int)-1).toNat)).Items).length)→(fI ((at_ out (((out.length:Int)-1).toNat)).Items)) i_=(fI ((at_ out (((out.length:Int)-1).toNat)).Items)) i_∨(AV.idsL ((fI ((at_ out (((out.length:Int)-1).toNat)).Items)) i_)=[]∧leL (fun _=>none) false ((fI ((at_ out (((out.length:Int)-1).toNat)).Items)) i_) ((fI ((at_ out (((out.length:Int)-1).toNat)).Items)) i_)))∧True,(0:Int)≤((out.length:Int)-1)∧((out.length:Int)-1)<(out.length:Int),((out.length:Int)-1).toNat<out.length] ⟨(Zaf om om),⟨(Zmc ((at_ out (((out.length:Int)-1).toNat)).Bottom) ((at_ boxes ((at_ od i.toNat).toNat)).Y2)),trivial⟩,⟨om,om⟩,om,⟨hc2,⟨(fun h=>by cases h),rfl,rfl,fun i _=> .inl rfl⟩,trivial⟩,⟨om,om⟩,om,trivial⟩ (Zbm 3 (Zac ?_))
     refine x_r [] [0,1,5,7,8] [12,23,8221] [Zae false boxes,I gap,.arr 12,.arr 23,I (i+1)] [some (tAI od),some (.oar [8221] 3 out.length (fun q=>bif Nat.beq q (((out.length:Int)-1).toNat) then [I ((at_ out (((out.length:Int)-1).toNat)).Top),I (max ((at_ out (((out.length:Int)-1).toNat)).Bottom) ((at_ boxes ((at_ od i.toNat).toNat)).Y2)),.arr 8221] else (Zfu true out) q)),some (tAI out_2)] [inR .i64 (i+1)] ⟨(Zaf om om),trivial⟩ ?_
     refine Zcb [] (T:=[(0,Zae false boxes),(1,I gap),(5,.arr 12),(7,.arr 23),(8,I (i+1))]) (O:=[(12,tAI od),(23,Zdj true (out.set (((out.length:Int)-1).toNat) (Line.mk ((at_ out (((out.length:Int)-1).toNat)).Top) (max ((at_ out (((out.length:Int)-1).toNat)).Bottom) ((at_ boxes ((at_ od i.toNat).toNat)).Y2)) out_2)))]) rfl (⟨.inl rfl,.inl rfl,.inl rfl,.inl rfl,.inl rfl,trivial⟩) (⟨.inl rfl,.inr ⟨rfl,(by simp),oupdLine out (((out.length:Int)-1).toNat) (Line.mk ((at_ out (((out.length:Int)-1).toNat)).Top) (max ((at_ out (((out.length:Int)-1).toNat)).Bottom) ((at_ boxes ((at_ od i.toNat).toNat)).Y2)) out_2) ⟨rfl,⟨rfl,⟨⟨(fun _=>rfl),rfl,rfl,fun i _=> .inl rfl⟩,rfl⟩⟩⟩⟩,trivial⟩) (Zbu ((out.set (((out.length:Int)-1).toNat) (Line.mk ((at_ out (((out.length:Int)-1).toNat)).Top) (max ((at_ out (((out.length:Int)-1).toNat)).Bottom) ((at_ boxes ((at_ od i.toNat).toNat)).Y2)) out_2)),(i+1)) rfl (show (0≤(i+1)∧(i+1)≤(od.length:Int))∧((out.set (((out.length:Int)-1).toNat) (Line.mk ((at_ out (((out.length:Int)-1).toNat)).Top) (max ((at_ out (((out.length:Int)-1).toNat)).Bottom) ((at_ boxes ((at_ od i.toNat).toNat)).Y2)) out_2))=(Zfl boxes gap (Zfk boxes) (i+1).toNat).map (Zhr boxes))∧True from ⟨om,(by rw [hnx];show _=(Zjc boxes gap (Zfl boxes gap (Zfk boxes) i.toNat) (at_ (Zfk boxes) i.toNat)).map (Zhr boxes);rw [←hdi];first|exact hay.symm|(rw [han,hpt,if_neg (by decide)])),trivial⟩) (by first|(show (((od.length:Int)-(i+1)).toNat:Nat)<((od.length:Int)-i).toNat;omega)|(dsimp only;omega)))
    have hfin:out=Zmm boxes gap:=by rw [hout,show i.toNat=boxes.length from by omega];rfl
    refine x_r [(3,.dec false)] [0,1,5,7,8,27] [12,23] [Zae false boxes,I gap,.arr 12,.arr 23,I i,Bv false] [some (tAI od),some (Zdj true out)] [_] ⟨h2,trivial⟩ (Zac (Zca rfl (Zcw (Zas ?_))))
    refine Zaw ?_
    refine Zat (Zac ?_)
    refine xR [] [4] [23] [.arr 23] [some (Zdj true out)] [] trivial (Zby ?_)
    refine Zcb [(9223,23)] (T:=[(4,.arr 9223)]) (O:=[(9223,Zdj true out)]) rfl (⟨.inl rfl,trivial⟩) (⟨.inl rfl,trivial⟩) ?_
    refine Zbd out (show (out=Zmm boxes gap)∧(True) from ⟨(by exact hfin),trivial⟩) (⟨.inl rfl,trivial⟩) (.arr 9223) (by kernel_rfl) (.inl rfl) (fun h=>by cases h) (fun h=>by cases h)
  obtain ⟨lns,⟨hh0,_⟩,hc⟩:=hh
  exact ⟨lns,hh0,hc⟩
theorem Zhv (boxes:List Box) (lineGap:Int) (wordGap:Int) (hs:Zbp boxes=true→smB boxes):∃(v:List (List Int)) (c:Int),((v,c)=Zjm boxes lineGap wordGap)∧Con Try.prog 27 [Zae false boxes,I lineGap,I wordGap] true (.tup [Zcx true v,I c]):=by
  have hh:∃r:(List (List Int))×Int,(((r.1,r.2)=Zjm boxes lineGap wordGap)∧(True))∧Zao Try.prog 27 [Zae false boxes,I lineGap,I wordGap] (Zab []) true (.tup [Zcx true r.1,I r.2]) (Zab []):=by
    refine Zcp (Φ:=fun r:(List (List Int))×Int=>((r.1,r.2)=Zjm boxes lineGap wordGap)∧(True)) [] (fun r=>[]) (fn:=Try.f27) (nt:=43) Try.func27 rfl rfl (args:=[Zae false boxes,I lineGap,I wordGap]) rfl (Zap (.inl ⟨rfl,Zbo false _⟩) (Zap (.inl ⟨rfl,trivial⟩) (Zap (.inl ⟨rfl,trivial⟩) Zco))) (res:=fun r=> .tup [Zcx true r.1,I r.2]) ?_
    refine xQ [] [0,1,2] [] [] trivial (Zam (Zam ?_))
    rcases Bool.eq_false_or_eq_true (Zbp boxes) with h1|h1
    ·have hpp:=h1
     have hpn:=Zma h1
     have hsm:=hs h1
     refine x_q [(1,.call [(true,.any)] true (Bv true))] [0,1,2,13] [] [Con Try.prog 35 [Zae false boxes] true (Bv true)∧True] ⟨⟨(Zak h1 (Zdc boxes)),trivial⟩,trivial⟩ (Zac (Zhn (Zbn (Zac (Zam (Zam ?_))))))
     rcases Bool.eq_false_or_eq_true (inB lineGap 0 4095) with h2|h2
     ·have hlg:=h2
      have hlg2:=Zgk.1 h2
      rcases Bool.eq_false_or_eq_true (inB wordGap 0 4095) with h3|h3
      ·have hst:=ro_ok hpp hlg h3
       have hwg2:=Zgk.1 h3
       refine x_q [(1,.call [(true,.any)] true (Bv true)),(5,.call [(true,.any)] true (Bv true))] [0,1,2,21] [] [Con Try.prog 36 [I lineGap] true (Bv true)∧True,Con Try.prog 36 [I wordGap] true (Bv true)∧True] ⟨⟨(Zak h2 (Zfg lineGap)),trivial⟩,⟨(Zak h3 (Zfg wordGap)),trivial⟩,trivial⟩ (Zac (Zhn (Zbn (Zac ?_))))
       refine xR [(0,.new 22)] [0,1,2,8] [22] [Zae false boxes,I lineGap,I wordGap,.arr 22] [some (.arr 1 0 (Zeo [] 1))] [] trivial (Zam ?_)
       obtain ⟨lns_1,hx1_0,hc1⟩:=Zst boxes lineGap hpp om
       have hL:=hx1_0
       have hnn:=linR_n (gap:=lineGap) hpp
       rw [←hL] at hnn
       refine x_q [(2,.lend [] [(9223,Zdj true lns_1)] [(true,.any),(true,.any)] false (.arr 9223))] [0,2,8,9] [22,9223] [Zao Try.prog 37 [Zae false boxes,I lineGap] (Zab []) false (.arr 9223) (Zab [(9223,Zdj true lns_1)])∧True] ⟨⟨hc1,trivial⟩,trivial⟩ (Zac (Zam ?_))
       refine xR [] [0,2,8,9,10] [22,9223] [Zae false boxes,I wordGap,.arr 22,.arr 9223,I 0] [some (.arr 1 0 (Zeo [] 1)),some (Zdj true lns_1)] [] trivial (Zbg ?_)
       refine Zde [] (T:=[(0,Zae false boxes),(2,I wordGap),(8,.arr 22),(9,.arr 9223),(10,I 0)]) (O:=[(22,Zvy true ([]:List (List Int))),(9223,Zdj true lns_1)]) rfl (⟨.inl rfl,.inl rfl,.inl rfl,.inl rfl,.inl rfl,trivial⟩) (⟨.inr ⟨rfl,(by first|rfl|(simp;done)|(simp;omega)|omega),fun i_ hi_=>absurd hi_ (Nat.not_lt_zero _)⟩,.inl rfl,trivial⟩) ?_
       refine Zdn (X:=(List (List Int))×Int) (fun x=>mkS [(0,Zae false boxes),(2,I wordGap),(8,.arr 22),(9,.arr 9223),(10,I x.2)] [(22,Zvy true x.1),(9223,Zdj true lns_1)]) (fun x=>(0≤x.2∧x.2≤(lns_1.length:Int))∧(x.1=rdW boxes wordGap (lns_1.take x.2.toNat))∧((x.1.length:Int)≤60*x.2)∧True) (fun x=>((lns_1.length:Int)-x.2).toNat) (([]:List (List Int)),0) rfl (show (0≤(0:Int)∧(0:Int)≤(lns_1.length:Int))∧(([]:List (List Int))=rdW boxes wordGap (lns_1.take (0:Int).toNat))∧((([]:List (List Int)).length:Int)≤60*(0:Int))∧True from ⟨om,(by rfl),(by simp),trivial⟩) (fun x hI=> ?_)
       obtain ⟨wd,i⟩:=x
       obtain ⟨hi0,hwd,hwn,_⟩:(0≤i∧i≤(lns_1.length:Int))∧(wd=rdW boxes wordGap (lns_1.take i.toNat))∧((wd.length:Int)≤60*i)∧True:=hI
       show XW _ _ _ _ (mkS [(0,Zae false boxes),(2,I wordGap),(8,.arr 22),(9,.arr 9223),(10,I i)] [(22,Zvy true wd),(9223,Zdj true lns_1)]) _ _
       refine Zam (Zam ?_)
       by_cases h4:i<(lns_1.length:Int)
       ·have hi:i.toNat<lns_1.length:=by omega
        have hnx:(i+1).toNat=i.toNat+1:=by omega
        have hln:=hnn.1 _ (Zbj hi)
        have hin:=hln.1
        refine x_q [(3,.dec true)] [0,2,8,9,10,29] [22,9223] [_] ⟨h4,trivial⟩ (Zac (Zel (Zbn (Zac (Zam (Zbg ?_))))))
        obtain ⟨v_2,hx2_0,hc2⟩:=Zmd boxes ((at_ lns_1 i.toNat).Items) wordGap hpp hln.2.1 om
        have hwv:=hx2_0
        have hwl:=Zio boxes ((at_ lns_1 i.toNat).Items) wordGap
        rw [←hwv] at hwl
        refine x_q [(8,.call [(true,.any),(false,slI false ((at_ lns_1 i.toNat).Items)),(true,.any)] true (Zcx true v_2)),(9,.new 41)] [0,2,8,9,10] [41,9223] [(0:Int)≤i∧i<(lns_1.length:Int),i.toNat<lns_1.length,_∧((false=true→true=true)∧1=1∧(((at_ lns_1 i.toNat).Items).length)=(((at_ lns_1 i.toNat).Items).length)∧∀i_,i_<(((at_ lns_1 i.toNat).Items).length)→(fI ((at_ lns_1 i.toNat).Items)) i_=(fI ((at_ lns_1 i.toNat).Items)) i_∨(AV.idsL ((fI ((at_ lns_1 i.toNat).Items)) i_)=[]∧leL (fun _=>none) false ((fI ((at_ lns_1 i.toNat).Items)) i_) ((fI ((at_ lns_1 i.toNat).Items)) i_)))∧True,(wd.length+v_2.length)*24≤140737488355328] ⟨⟨om,om⟩,om,⟨hc2,⟨(fun h=>by cases h),rfl,rfl,fun i _=> .inl rfl⟩,trivial⟩,om,trivial⟩ (Zbm 1 (Zac ?_))
        refine x_r [] [0,2,8,9,10] [41,9223] [Zae false boxes,I wordGap,.arr 41,.arr 9223,I (i+1)] [some (.arr 1 (wd.length+v_2.length) (Zeg wd.length (fLI true wd) (fLI true v_2))),some (Zdj true lns_1)] [inR .i64 (i+1)] ⟨(Zaf om om),trivial⟩ ?_
        refine Zcb [(22,41)] (T:=[(0,Zae false boxes),(2,I wordGap),(8,.arr 22),(9,.arr 9223),(10,I (i+1))]) (O:=[(22,Zvy true (wd++v_2)),(9223,Zdj true lns_1)]) rfl (⟨.inl rfl,.inl rfl,.inl rfl,.inl rfl,.inl rfl,trivial⟩) (⟨.inr ⟨rfl,(by first|rfl|(simp;done)|(simp;omega)|omega),fun i_ hi_=> .inl (Zwg (enc:=(cLI true)) (xs:=wd) i_ hi_)⟩,.inl rfl,trivial⟩) (Zbu ((wd++v_2),(i+1)) rfl (show (0≤(i+1)∧(i+1)≤(lns_1.length:Int))∧((wd++v_2)=rdW boxes wordGap (lns_1.take (i+1).toNat))∧(((wd++v_2).length:Int)≤60*(i+1))∧True from ⟨om,(by rw [hnx,Zuj hi,←hwd,←hwv]),(by rw [List.length_append];omega),trivial⟩) (by first|(show (((lns_1.length:Int)-(i+1)).toNat:Nat)<((lns_1.length:Int)-i).toNat;omega)|(dsimp only;omega)))
       have hfin:wd=rdW boxes wordGap (Zmm boxes lineGap):=by rw [hwd,show i.toNat=lns_1.length from by omega,List.take_length,hL]
       refine x_r [(3,.dec false)] [0,2,8,9,10,29] [22,9223] [Zae false boxes,I wordGap,.arr 22,.arr 9223,I i,Bv false] [some (Zvy true wd),some (Zdj true lns_1)] [_] ⟨h4,trivial⟩ (Zac (Zca rfl (Zcw (Zas ?_))))
       refine Zaw ?_
       refine Zat (Zac ?_)
       refine xR [] [6,7] [22] [.arr 22,I 0] [some (Zvy true wd)] [] trivial (Zby ?_)
       refine Zbd (wd,0) (show ((wd,0)=Zjm boxes lineGap wordGap)∧(True) from ⟨(by first|exact hst.symm|(rw [hst,hfin])),trivial⟩) (trivial) (.tup [.arr 22,I 0]) (by kernel_rfl) (.inr ⟨⟨(fun _=>rfl),rfl,rfl,fun i _=> .inl rfl⟩,⟨rfl,rfl⟩⟩) (fun _=>rfl) (fun _=>(by simp [Zah,Zag,Zgl]))
      have hst:=Zuk (lg:=lineGap) hpp (.inr h3)
      refine x_q [(1,.call [(true,.any)] true (Bv true)),(5,.call [(true,.any)] true (Bv false))] [0,1,2,21] [] [Con Try.prog 36 [I lineGap] true (Bv true)∧True,Con Try.prog 36 [I wordGap] true (Bv false)∧True] ⟨⟨(Zak h2 (Zfg lineGap)),trivial⟩,⟨(Zak h3 (Zfg wordGap)),trivial⟩,trivial⟩ (Zac (Zel ?_))
      refine xR [] [6,7] [] [Zfj,I 2] [] [] trivial (Zby (Zbc ?_))
      refine Zbd (([]:List (List Int)),2) (show ((([]:List (List Int)),2)=Zjm boxes lineGap wordGap)∧(True) from ⟨(by first|exact hst.symm|(rw [hst,hfin])),trivial⟩) (trivial) (.tup [Zfj,I 2]) (by kernel_rfl) (.inr ⟨⟨rfl,rfl⟩,⟨rfl,rfl⟩⟩) (fun _=>rfl) (fun _=>(by simp [Zah,Zag,Zgl]))
     have hst:=Zuk (wg:=wordGap) hpp (.inl h2)
     refine x_q [(1,.call [(true,.any)] true (Bv false))] [0,1,2,21] [] [Con Try.prog 36 [I lineGap] true (Bv false)∧True] ⟨⟨(Zak h2 (Zfg lineGap)),trivial⟩,trivial⟩ (Zac (Zel ?_))
     refine xR [] [6,7] [] [Zfj,I 2] [] [] trivial (Zby (Zbc ?_))
     refine Zbd (([]:List (List Int)),2) (show ((([]:List (List Int)),2)=Zjm boxes lineGap wordGap)∧(True) from ⟨(by first|exact hst.symm|(rw [hst,hfin])),trivial⟩) (trivial) (.tup [Zfj,I 2]) (by kernel_rfl) (.inr ⟨⟨rfl,rfl⟩,⟨rfl,rfl⟩⟩) (fun _=>rfl) (fun _=>(by simp [Zah,Zag,Zgl]))
    have hst:=ro_inv (lg:=lineGap) (wg:=wordGap) h1
    refine x_q [(1,.call [(true,.any)] true (Bv false))] [0,1,2,13] [] [Con Try.prog 35 [Zae false boxes] true (Bv false)∧True] ⟨⟨(Zak h1 (Zdc boxes)),trivial⟩,trivial⟩ (Zac (Zel ?_))
    refine xR [] [6,7] [] [Zfj,I 1] [] [] trivial (Zby (Zbc ?_))
    refine Zbd (([]:List (List Int)),1) (show ((([]:List (List Int)),1)=Zjm boxes lineGap wordGap)∧(True) from ⟨(by first|exact hst.symm|(rw [hst,hfin])),trivial⟩) (trivial) (.tup [Zfj,I 1]) (by kernel_rfl) (.inr ⟨⟨rfl,rfl⟩,⟨rfl,rfl⟩⟩) (fun _=>rfl) (fun _=>(by simp [Zah,Zag,Zgl]))
  obtain ⟨⟨v,c⟩,⟨hh0,_⟩,hc⟩:=hh
  exact ⟨v,c,hh0,hc⟩
theorem Zlc (a:List Int) (b:List Int):Con Try.prog 19 [slI false a,slI false b] true (Bv (Zje a b)):=by
  refine Zda (fn:=Try.f19) (nt:=26) Try.func19 rfl rfl rfl rfl (by simp [Zag,Zah,Zft]) fun B hB=> ?_
  refine Zbt (x:=slI false a) 0 rfl (fun len_a=> ?_)
  simp [Zdb,Zfv,cI,fI,slI] at len_a
  refine Zbt (x:=slI false b) 1 rfl (fun len_b=> ?_)
  simp [Zdb,Zfv,cI,fI,slI] at len_b
  refine aQ [] [0,1] [] [] hB trivial (Zai (Zai ?_))
  by_cases h1:(a.length:Int)=(b.length:Int)
  ·have hlen:a.length=b.length:=by omega
   refine Zbz [(4,.dec false)] [0,1,10] [] [¬ ((a.length:Int)≠(b.length:Int))] hB ⟨(fun hq=>hq h1),trivial⟩ (Zad (Zbw (Zaq (Zad (Zai ?_)))))
   refine aR [] [0,1,5] [] [slI false a,slI false b,I 0] [] [] hB trivial (Zar ?_)
   refine Zcg (fun gn gσ=>∃(i:Int),gn=((a.length:Int)-i).toNat∧(0≤i∧i≤(a.length:Int))∧(∀j:Nat,(j:Int)<i→decide (at_ a j=at_ b j)=true)∧gσ=mkS [(0,slI false a),(1,slI false b),(5,I i)] []) (((a.length:Int)-0).toNat) ⟨0,rfl,om,(by intro j hj;omega),rfl⟩ (fun gn gσ hI=> ?_)
   obtain ⟨i,rfl,hi0,hall0,rfl⟩:=hI
   refine Zai (Zai ?_)
   by_cases h2:i<(a.length:Int)
   ·have hi:i.toNat<a.length:=by omega
    refine Zbz [(3,.dec true)] [0,1,5,14] [] [_] hB ⟨h2,trivial⟩ (Zad (Zcf (Zaq (Zad (Zai (Zar (Zai ?_)))))))
    by_cases h3:(at_ a i.toNat)=(at_ b i.toNat)
    ·have hok:decide (at_ a i.toNat=at_ b i.toNat)=true:=decide_eq_true h3
     refine Zbz [(8,.dec false)] [0,1,5,25] [] [(0:Int)≤i∧i<(a.length:Int),(0:Int)≤i∧i<(b.length:Int),¬ ((at_ a i.toNat)≠(at_ b i.toNat))] hB ⟨⟨om,om⟩,⟨om,om⟩,(fun hq=>hq h3),trivial⟩ (Zad (Zbw (Zaq (Zbq 1 (Zad ?_)))))
     refine Zei [] [0,1,5] [] [slI false a,slI false b,I (i+1)] [] [inR .i64 (i+1)] hB ⟨(Zaf om om),trivial⟩ ?_
     exact Zbr _ om ⟨(i+1),rfl,om,(by intro j hj;by_cases ej:j=i.toNat;(subst ej;first|assumption|exact hok);exact hall0 j om),rfl⟩
    have hall:Zpy a.length (fun j=>decide (at_ a j=at_ b j))=false:=Zgm hi (decide_eq_false h3)
    refine Zbz [(8,.dec true)] [0,1,5,25] [] [(0:Int)≤i∧i<(a.length:Int),(0:Int)≤i∧i<(b.length:Int),_] hB ⟨⟨om,om⟩,⟨om,om⟩,h3,trivial⟩ (Zad (Zcf ?_))
    refine aR [] [4] [] [Bv false] [] [] hB trivial (Zaz ?_)
    refine Zau (Zal (Zal (Zau (Zal ?_))))
    refine Zax hB (Bv false) (by kernel_rfl) (.inl (by first|(simp [Zje,hlen];done)|(unfold Zje;rw [hall];simp [hlen]))) rfl (fun _=>trivial)
   have hall:Zpy a.length (fun j=>decide (at_ a j=at_ b j))=true:=Zhh (fun j hj=>hall0 j om)
   refine Zbz [(3,.dec false)] [0,1,5,14] [] [_] hB ⟨h2,trivial⟩ (Zad (Zbw (Zcl (Zaj (Zaj (Zav (Zad ?_)))))))
   refine aR [] [4] [] [Bv true] [] [] hB trivial (Zaz ?_)
   refine Zax hB (Bv true) (by kernel_rfl) (.inl (by first|(simp [Zje,hlen];done)|(unfold Zje;rw [hall];simp [hlen]))) rfl (fun _=>trivial)
  have hlen:¬ a.length=b.length:=by omega
  refine Zbz [(4,.dec true)] [0,1,10] [] [_] hB ⟨h1,trivial⟩ (Zad (Zcf ?_))
  refine aR [] [4] [] [Bv false] [] [] hB trivial (Zaz (Zal ?_))
  refine Zax hB (Bv false) (by kernel_rfl) (.inl (by first|(simp [Zje,hlen];done)|(unfold Zje;rw [hall];simp [hlen]))) rfl (fun _=>trivial)
theorem Zne (a:List (List Int)) (b:List (List Int)):Con Try.prog 28 [Zcx false a,Zcx false b] true (Bv (Znv a b)):=by
  refine Zda (fn:=Try.f28) (nt:=27) Try.func28 rfl rfl rfl rfl (by simp [Zag,Zah,Zgl]) fun B hB=> ?_
  refine Zbt (x:=Zcx false a) 0 rfl (fun len_a=> ?_)
  simp [Zdb,Zfv,cI,cLI,fI,fLI,slI,Zcx] at len_a
  refine Zbt (x:=Zcx false b) 1 rfl (fun len_b=> ?_)
  simp [Zdb,Zfv,cI,cLI,fI,fLI,slI,Zcx] at len_b
  refine aQ [] [0,1] [] [] hB trivial (Zai (Zai ?_))
  by_cases h1:(a.length:Int)=(b.length:Int)
  ·have hlen:a.length=b.length:=by omega
   refine Zbz [(4,.dec false)] [0,1,10] [] [¬ ((a.length:Int)≠(b.length:Int))] hB ⟨(fun hq=>hq h1),trivial⟩ (Zad (Zbw (Zaq (Zad (Zai ?_)))))
   refine aR [] [0,1,5] [] [Zcx false a,Zcx false b,I 0] [] [] hB trivial (Zar ?_)
   refine Zcg (fun gn gσ=>∃(i:Int),gn=((a.length:Int)-i).toNat∧(0≤i∧i≤(a.length:Int))∧(∀j:Nat,(j:Int)<i→Zje (at_ a j) (at_ b j)=true)∧gσ=mkS [(0,Zcx false a),(1,Zcx false b),(5,I i)] []) (((a.length:Int)-0).toNat) ⟨0,rfl,om,(by intro j hj;omega),rfl⟩ (fun gn gσ hI=> ?_)
   obtain ⟨i,rfl,hi0,hall0,rfl⟩:=hI
   refine Zai (Zai ?_)
   by_cases h2:i<(a.length:Int)
   ·have hi:i.toNat<a.length:=by omega
    have hi2:i.toNat<b.length:=by omega
    refine Zbz [(3,.dec true)] [0,1,5,14] [] [_] hB ⟨h2,trivial⟩ (Zad (Zcf (Zaq (Zad (Zai (Zar (Zai ?_)))))))
    rcases Bool.eq_false_or_eq_true (Zje (at_ a i.toNat) (at_ b i.toNat)) with h3|h3
    ·have hok:=h3
     refine Zbz [(8,.call [(true,.any),(true,.any)] true (Bv true))] [0,1,5,26] [] [(0:Int)≤i∧i<(a.length:Int),(0:Int)≤i∧i<(b.length:Int),Con Try.prog 19 [slI false (at_ a i.toNat),slI false (at_ b i.toNat)] true (Bv true)∧True] hB ⟨⟨om,om⟩,⟨om,om⟩,⟨(Zak h3 (Zlc (at_ a i.toNat) (at_ b i.toNat))),trivial⟩,trivial⟩ (Zad (Zbw (Zaq (Zbq 1 (Zad ?_)))))
     refine Zei [] [0,1,5] [] [Zcx false a,Zcx false b,I (i+1)] [] [inR .i64 (i+1)] hB ⟨(Zaf om om),trivial⟩ ?_
     exact Zbr _ om ⟨(i+1),rfl,om,(by intro j hj;by_cases ej:j=i.toNat;(subst ej;first|assumption|exact hok);exact hall0 j om),rfl⟩
    have hall:Zpy a.length (fun j=>Zje (at_ a j) (at_ b j))=false:=Zgm hi h3
    refine Zbz [(8,.call [(true,.any),(true,.any)] true (Bv false))] [0,1,5,26] [] [(0:Int)≤i∧i<(a.length:Int),(0:Int)≤i∧i<(b.length:Int),Con Try.prog 19 [slI false (at_ a i.toNat),slI false (at_ b i.toNat)] true (Bv false)∧True] hB ⟨⟨om,om⟩,⟨om,om⟩,⟨(Zak h3 (Zlc (at_ a i.toNat) (at_ b i.toNat))),trivial⟩,trivial⟩ (Zad (Zcf ?_))
    refine aR [] [4] [] [Bv false] [] [] hB trivial (Zaz ?_)
    refine Zau (Zal (Zal (Zau (Zal ?_))))
    refine Zax hB (Bv false) (by kernel_rfl) (.inl (by refine congrArg Bv ?_;unfold Znv;first|(rw [decide_eq_false hlen];rfl)|(rw [decide_eq_true hlen,hall];rfl))) rfl (fun _=>trivial)
   have hall:Zpy a.length (fun j=>Zje (at_ a j) (at_ b j))=true:=Zhh (fun j hj=>hall0 j om)
   refine Zbz [(3,.dec false)] [0,1,5,14] [] [_] hB ⟨h2,trivial⟩ (Zad (Zbw (Zcl (Zaj (Zaj (Zav (Zad ?_)))))))
   refine aR [] [4] [] [Bv true] [] [] hB trivial (Zaz ?_)
   refine Zax hB (Bv true) (by kernel_rfl) (.inl (by refine congrArg Bv ?_;unfold Znv;first|(rw [decide_eq_false hlen];rfl)|(rw [decide_eq_true hlen,hall];rfl))) rfl (fun _=>trivial)
  have hlen:¬ a.length=b.length:=by omega
  refine Zbz [(4,.dec true)] [0,1,10] [] [_] hB ⟨h1,trivial⟩ (Zad (Zcf ?_))
  refine aR [] [4] [] [Bv false] [] [] hB trivial (Zaz (Zal ?_))
  refine Zax hB (Bv false) (by kernel_rfl) (.inl (by refine congrArg Bv ?_;unfold Znv;first|(rw [decide_eq_false hlen];rfl)|(rw [decide_eq_true hlen,hall];rfl))) rfl (fun _=>trivial)
end Go.Proofs.Ytfafngbbaplknaa.Ax
