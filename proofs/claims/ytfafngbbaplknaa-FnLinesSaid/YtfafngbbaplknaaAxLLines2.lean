/- Contracts that the statement FnLines reaches, part 2. No conditions. -/
import Derived.Test.YtfafngbbaplknaaAxLLines1
import Derived.Test.YtfafngbbaplknaaAxR
import Derived.Test.YtfafngbbaplknaaAxRS
import Derived.Test.YtfafngbbaplknaaAxS
import Derived.Test.YtfafngbbaplknaaAxY
namespace Go.Proofs.Ytfafngbbaplknaa.Ax
open Go.RowKit Go.ChangeShapes Go.WideShapes
set_option linter.unusedVariables false
set_option linter.unusedSimpArgs false
theorem Zrm (data:List Int) (a:Int) (b:Int) (boxes:List Box) (hb:0≤a∧a≤b∧b≤(data.length:Int)) (hl:data.length≤1000) (hsd:Zmm (cY boxes) data) (hcl:∀x∈data,0≤x∧x<(boxes.length:Int)):Con Try.prog 84 [slI false data,I a,I b,.fn 64 [.ptr false [Zag false boxes]]] true (.tup []):=by
  refine Zcn (fn:=Try.f84) (nt:=53) Try.func84 rfl rfl rfl rfl (by simp [Zaf,Zaj,Zbz,Zje]) fun B hB=> ?_
  refine Zbk (x:=slI false data) 0 rfl (fun len_data=> ?_)
  simp [Zco,Zfb,cI,fI,slI] at len_data
  refine aR [] [0,1,2,3,8] [] [slI false data,I a,I b,.fn 64 [.ptr false [Zag false boxes]],I (a+1)] [] [inR .i64 (a+1)] hB ⟨(Zah om om),trivial⟩ (Zao ?_)
  refine Zbq (fun gn gσ=>∃(i:Int),gn=(b-i).toNat∧(a+1≤i∧(i≤b∨i=a+1))∧gσ=mkS [(0,slI false data),(1,I a),(2,I b),(3,.fn 64 [.ptr false [Zag false boxes]]),(8,I i)] []) ((b-(a+1)).toNat) ⟨(a+1),rfl,om,rfl⟩ (fun gn gσ hI=> ?_)
  obtain ⟨i,rfl,hi0,rfl⟩:=hI
  refine Zae (Zae ?_)
  by_cases h1:i<b
  ·refine Zbm [(2,.dec true)] [0,1,2,3,8,14] [] [_] hB ⟨h1,trivial⟩ (Zab (Zbp (Zam (Zab (Zae (Zao ?_))))))
   refine aR [] [0,1,2,3,8,9] [] [slI false data,I a,I b,.fn 64 [.ptr false [Zag false boxes]],I i,I i] [] [] hB trivial (Zao ?_)
   refine Zbq (fun gn gσ=>∃(j:Int),gn=(0:Nat)∧(j=i)∧gσ=mkS [(0,slI false data),(1,I a),(2,I b),(3,.fn 64 [.ptr false [Zag false boxes]]),(8,I i),(9,I j)] []) ((0:Nat)) ⟨i,rfl,(by first|rfl|omega),rfl⟩ (fun gn gσ hI=> ?_)
   obtain ⟨j,rfl,hj0,rfl⟩:=hI
   refine Zae ?_
   refine aQ [(2,.dec true),(14,.call [(true,.any),(true,.any),(true,.any)] true (I (cY boxes (at_ data j.toNat) (at_ data ((j-1).toNat))))),(15,.dec false)] [0,1,2,3,8,9,34] [] [a<j,(0:Int)≤j∧j<(data.length:Int),inR .i64 (j-1),(0:Int)≤(j-1)∧(j-1)<(data.length:Int),_∧True,¬ ((cY boxes (at_ data j.toNat) (at_ data ((j-1).toNat)))<0)] hB ⟨om,⟨om,om⟩,(Zah om om),⟨om,om⟩,⟨(Zcr (at_ data j.toNat) (at_ data ((j-1).toNat)) boxes (by first|omega|exact hcl _ (Zbf om)) (by first|omega|exact hcl _ (Zbf om))),trivial⟩,(Zmf hsd om om),trivial⟩ (Zbc (Zbr (Zai (Zai (Zaq (Zay 1 (Zab ?_)))))))
   refine Zdk [] [0,1,2,3,8] [] [slI false data,I a,I b,.fn 64 [.ptr false [Zag false boxes]],I (i+1)] [] [inR .i64 (i+1)] hB ⟨(Zah om om),trivial⟩ ?_
   exact Zaz _ om ⟨(i+1),rfl,om,rfl⟩
  refine Zdk [(2,.dec false)] [0,1,2,3,8,14] [] [slI false data,I a,I b,.fn 64 [.ptr false [Zag false boxes]],I i,Bv false] [] [_] hB ⟨h1,trivial⟩ (Zab (Zdc rfl (Zbr (Zai (Zai (Zaq ?_))))))
  refine Zat hB (.tup []) (by kernel_rfl) (.inl rfl) rfl (fun _=>(by simp [Zaj,Zaf]))
theorem Zsx (data:List Int) (a:Int) (m:Int) (b:Int) (boxes:List Box) (N:Nat) (ih:∀(data:List Int) (a m b:Int) (boxes:List Box),(b-a).toNat<N→0≤a∧a<m∧m<b∧b≤(data.length:Int)→data.length≤1000→Zmm (cY boxes) data→(∀x∈data,0≤x∧x<(boxes.length:Int))→Con Try.prog 85 [slI false data,I a,I m,I b,.fn 64 [.ptr false [Zag false boxes]]] true (.tup [])) (hN:(b-a).toNat≤N) (hb:0≤a∧a<m∧m<b∧b≤(data.length:Int)) (hl:data.length≤1000) (hsd:Zmm (cY boxes) data) (hcl:∀x∈data,0≤x∧x<(boxes.length:Int)):Con Try.prog 85 [slI false data,I a,I m,I b,.fn 64 [.ptr false [Zag false boxes]]] true (.tup []):=by
  refine Zcn (fn:=Try.f85) (nt:=220) Try.func85 rfl rfl rfl rfl (by simp [Zaf,Zaj,Zbz,Zje]) fun B hB=> ?_
  refine Zbk (x:=slI false data) 0 rfl (fun len_data=> ?_)
  simp [Zco,Zfb,cI,fI,slI] at len_data
  refine Zae (Zae ?_)
  by_cases h1:(m-a)=1
  ·refine Zbm [(3,.dec true)] [0,1,2,3,4,28] [] [inR .i64 (m-a),_] hB ⟨(Zah om om),h1,trivial⟩ (Zab (Zbp ?_))
   refine aQ [] [0,1,3,4,10] [] [] hB trivial ?_
   refine aR [] [0,1,4,10,11] [] [slI false data,I a,.fn 64 [.ptr false [Zag false boxes]],I m,I b] [] [] hB trivial (Zae (Zao ?_))
   refine Zbq (fun gn gσ=>∃(i:Int) (j:Int),gn=(j-i).toNat∧(i=m∧m≤j∧j≤b)∧gσ=mkS [(0,slI false data),(1,I a),(4,.fn 64 [.ptr false [Zag false boxes]]),(10,I i),(11,I j)] []) ((b-m).toNat) ⟨m,b,rfl,om,rfl⟩ (fun gn gσ hI=> ?_)
   obtain ⟨i,j,rfl,hi0,rfl⟩:=hI
   refine Zae (Zae ?_)
   by_cases h2:i<j
   ·refine Zbm [(2,.dec true)] [0,1,4,10,11,33] [] [_] hB ⟨h2,trivial⟩ (Zab (Zbp (Zam (Zab (Zao ?_)))))
    refine aQ [] [0,1,4,10,11,12] [] [inR .i64 (i+j),inR .u64 (i+j),(0:Int)≤1∧(1:Int)≤((IntKind.bits .u64:Nat):Int),inR .i64 ((i+j)/2)] hB ⟨(Zah om om),(Zeo om om),⟨(by decide),(by decide)⟩,(Zah om om),trivial⟩ ?_
    refine aQ [(9,.call [(true,.any),(true,.any),(true,.any)] true (I (cY boxes (at_ data (((i+j)/2).toNat)) (at_ data a.toNat)))),(10,.dec false)] [0,1,4,10,11,12,50] [] [(0:Int)≤((i+j)/2)∧((i+j)/2)<(data.length:Int),(0:Int)≤a∧a<(data.length:Int),_∧True,¬ ((cY boxes (at_ data (((i+j)/2).toNat)) (at_ data a.toNat))<0)] hB ⟨⟨om,om⟩,⟨om,om⟩,⟨(Zcr (at_ data (((i+j)/2).toNat)) (at_ data a.toNat) boxes (by first|omega|exact hcl _ (Zbf om)) (by first|omega|exact hcl _ (Zbf om))),trivial⟩,(Zmf hsd om om),trivial⟩ (Zbc ?_)
    refine Zdk [] [0,1,4,10,11] [] [slI false data,I a,.fn 64 [.ptr false [Zag false boxes]],I i,I ((i+j)/2)] [] [] hB trivial (Zay 1 ?_)
    exact Zaz _ om ⟨i,((i+j)/2),rfl,om,rfl⟩
   refine Zbm [(2,.dec false)] [0,1,4,10,11,33] [] [_] hB ⟨h2,trivial⟩ (Zab (Zbc (Zbr (Zai (Zai (Zaq (Zab (Zae ?_))))))))
   refine aR [] [0,10,13] [] [slI false data,I i,I a] [] [] hB trivial (Zao ?_)
   refine Zbq (fun gn gσ=>∃(k:Int),gn=(0:Nat)∧(k=a)∧gσ=mkS [(0,slI false data),(10,I i),(13,I k)] []) ((0:Nat)) ⟨a,rfl,(by first|rfl|omega),rfl⟩ (fun gn gσ hI=> ?_)
   obtain ⟨k,rfl,hk0,rfl⟩:=hI
   refine Zae ?_
   refine aR [(3,.dec false)] [0,10,13,58] [] [slI false data,I i,I k,Bv false] [] [inR .i64 (i-1),¬ (k<(i-1))] hB ⟨(Zah om om),om,trivial⟩ (Zdc rfl (Zbr (Zai (Zai (Zaq (Zab (Zav (Zak ?_))))))))
   refine Zat hB (.tup []) (by kernel_rfl) (.inl rfl) rfl (fun _=>(by simp [Zaj,Zaf]))
  refine Zbm [(3,.dec false)] [0,1,2,3,4,28] [] [inR .i64 (m-a),_] hB ⟨(Zah om om),h1,trivial⟩ (Zab (Zbc (Zam (Zab (Zae (Zae ?_))))))
  by_cases h3:(b-m)=1
  ·refine Zbm [(3,.dec true)] [0,1,2,3,4,80] [] [inR .i64 (b-m),_] hB ⟨(Zah om om),h3,trivial⟩ (Zab (Zbp ?_))
   refine aQ [] [0,2,4,14] [] [] hB trivial ?_
   refine aR [] [0,2,4,14,15] [] [slI false data,I m,.fn 64 [.ptr false [Zag false boxes]],I a,I m] [] [] hB trivial (Zae (Zao ?_))
   refine Zbq (fun gn gσ=>∃(i:Int) (j:Int),gn=(j-i).toNat∧(a≤i∧i≤m∧j=m)∧gσ=mkS [(0,slI false data),(2,I m),(4,.fn 64 [.ptr false [Zag false boxes]]),(14,I i),(15,I j)] []) ((m-a).toNat) ⟨a,m,rfl,om,rfl⟩ (fun gn gσ hI=> ?_)
   obtain ⟨i,j,rfl,hi0,rfl⟩:=hI
   refine Zae (Zae ?_)
   by_cases h4:i<j
   ·refine Zbm [(2,.dec true)] [0,2,4,14,15,85] [] [_] hB ⟨h4,trivial⟩ (Zab (Zbp (Zam (Zab (Zao ?_)))))
    refine aQ [] [0,2,4,14,15,16] [] [inR .i64 (i+j),inR .u64 (i+j),(0:Int)≤1∧(1:Int)≤((IntKind.bits .u64:Nat):Int),inR .i64 ((i+j)/2)] hB ⟨(Zah om om),(Zeo om om),⟨(by decide),(by decide)⟩,(Zah om om),trivial⟩ ?_
    refine aQ [(9,.call [(true,.any),(true,.any),(true,.any)] true (I (cY boxes (at_ data m.toNat) (at_ data (((i+j)/2).toNat))))),(10,.dec false)] [0,2,4,14,15,16,103] [] [(0:Int)≤m∧m<(data.length:Int),(0:Int)≤((i+j)/2)∧((i+j)/2)<(data.length:Int),_∧True,¬ ((cY boxes (at_ data m.toNat) (at_ data (((i+j)/2).toNat)))<0)] hB ⟨⟨om,om⟩,⟨om,om⟩,⟨(Zcr (at_ data m.toNat) (at_ data (((i+j)/2).toNat)) boxes (by first|omega|exact hcl _ (Zbf om)) (by first|omega|exact hcl _ (Zbf om))),trivial⟩,(Zmf hsd om om),trivial⟩ (Zbp ?_)
    refine Zdk [] [0,2,4,14,15] [] [slI false data,I m,.fn 64 [.ptr false [Zag false boxes]],I (((i+j)/2)+1),I j] [] [inR .i64 (((i+j)/2)+1)] hB ⟨(Zah om om),trivial⟩ (Zay 5 ?_)
    exact Zaz _ om ⟨(((i+j)/2)+1),j,rfl,om,rfl⟩
   refine Zbm [(2,.dec false)] [0,2,4,14,15,85] [] [_] hB ⟨h4,trivial⟩ (Zab (Zbc (Zbr (Zai (Zai (Zaq (Zab (Zae ?_))))))))
   refine aR [] [0,14,17] [] [slI false data,I i,I m] [] [] hB trivial (Zao ?_)
   refine Zbq (fun gn gσ=>∃(k:Int),gn=(0:Nat)∧(k=m)∧gσ=mkS [(0,slI false data),(14,I i),(17,I k)] []) ((0:Nat)) ⟨m,rfl,(by first|rfl|omega),rfl⟩ (fun gn gσ hI=> ?_)
   obtain ⟨k,rfl,hk0,rfl⟩:=hI
   refine Zae ?_
   refine aR [(2,.dec false)] [0,14,17,110] [] [slI false data,I i,I k,Bv false] [] [¬ (i<k)] hB ⟨om,trivial⟩ (Zdc rfl (Zbr (Zai (Zai (Zaq (Zab (Zav (Zak ?_))))))))
   refine Zat hB (.tup []) (by kernel_rfl) (.inl rfl) rfl (fun _=>(by simp [Zaj,Zaf]))
  refine Zbm [(3,.dec false)] [0,1,2,3,4,80] [] [inR .i64 (b-m),_] hB ⟨(Zah om om),h3,trivial⟩ (Zab (Zbc (Zam (Zab ?_))))
  refine aQ [] [0,1,2,3,4,18] [] [inR .i64 (a+b),inR .u64 (a+b),(0:Int)≤1∧(1:Int)≤((IntKind.bits .u64:Nat):Int),inR .i64 ((a+b)/2)] hB ⟨(Zah om om),(Zeo om om),⟨(by decide),(by decide)⟩,(Zah om om),trivial⟩ ?_
  refine aQ [] [0,1,2,3,4,18,19] [] [inR .i64 (((a+b)/2)+m)] hB ⟨(Zah om om),trivial⟩ ?_
  refine aR [] [0,1,2,3,4,18,19] [] [slI false data,I a,I m,I b,.fn 64 [.ptr false [Zag false boxes]],I ((a+b)/2),I (((a+b)/2)+m)] [] [] hB trivial (Zae (Zae ?_))
  by_cases h5:((a+b)/2)<m
  ·refine Zbm [(2,.dec true)] [0,1,2,3,4,18,19,140] [] [_] hB ⟨h5,trivial⟩ (Zab (Zbp ?_))
   refine aQ [] [0,1,2,3,4,18,19,20] [] [inR .i64 ((((a+b)/2)+m)-b)] hB ⟨(Zah om om),trivial⟩ ?_
   refine Zbm [] [0,1,2,3,4,18,19,20,21] [] [] hB trivial (Zab ?_)
   refine aR [] [0,1,2,3,4,18,19,20,21,22] [] [slI false data,I a,I m,I b,.fn 64 [.ptr false [Zag false boxes]],I ((a+b)/2),I (((a+b)/2)+m),I ((((a+b)/2)+m)-b),I ((a+b)/2),I ((((a+b)/2)+m)-1)] [] [inR .i64 ((((a+b)/2)+m)-1)] hB ⟨(Zah om om),trivial⟩ (Zae (Zao ?_))
   refine Zbq (fun gn gσ=>∃(start:Int) (r:Int),gn=(r-start).toNat∧((((a+b)/2)<m∧r=((a+b)/2)∧((a+b)/2)+m-b≤start∨m≤((a+b)/2)∧r=m∧a≤start))∧(start≤r)∧gσ=mkS [(0,slI false data),(1,I a),(2,I m),(3,I b),(4,.fn 64 [.ptr false [Zag false boxes]]),(18,I ((a+b)/2)),(19,I (((a+b)/2)+m)),(20,I start),(21,I r),(22,I ((((a+b)/2)+m)-1))] []) ((((a+b)/2)-((((a+b)/2)+m)-b)).toNat) ⟨((((a+b)/2)+m)-b),((a+b)/2),rfl,om,om,rfl⟩ (fun gn gσ hI=> ?_)
   obtain ⟨start,r,rfl,hr0,hs0,rfl⟩:=hI
   refine Zae (Zae ?_)
   by_cases h6:start<r
   ·refine Zbm [(2,.dec true)] [0,1,2,3,4,18,19,20,21,22,151] [] [_] hB ⟨h6,trivial⟩ (Zab (Zbp (Zam (Zab (Zao ?_)))))
    refine aQ [] [0,1,2,3,4,18,19,20,21,22,23] [] [inR .i64 (start+r),inR .u64 (start+r),(0:Int)≤1∧(1:Int)≤((IntKind.bits .u64:Nat):Int),inR .i64 ((start+r)/2)] hB ⟨(Zah om om),(Zeo om om),⟨(by decide),(by decide)⟩,(Zah om om),trivial⟩ ?_
    refine aQ [(11,.call [(true,.any),(true,.any),(true,.any)] true (I (cY boxes (at_ data ((((((a+b)/2)+m)-1)-((start+r)/2)).toNat)) (at_ data (((start+r)/2).toNat))))),(12,.dec false)] [0,1,2,3,4,18,19,20,21,22,23,171] [] [inR .i64 (((((a+b)/2)+m)-1)-((start+r)/2)),(0:Int)≤(((((a+b)/2)+m)-1)-((start+r)/2))∧(((((a+b)/2)+m)-1)-((start+r)/2))<(data.length:Int),(0:Int)≤((start+r)/2)∧((start+r)/2)<(data.length:Int),_∧True,¬ ((cY boxes (at_ data ((((((a+b)/2)+m)-1)-((start+r)/2)).toNat)) (at_ data (((start+r)/2).toNat)))<0)] hB ⟨(Zah om om),⟨om,om⟩,⟨om,om⟩,⟨(Zcr (at_ data ((((((a+b)/2)+m)-1)-((start+r)/2)).toNat)) (at_ data (((start+r)/2).toNat)) boxes (by first|omega|exact hcl _ (Zbf om)) (by first|omega|exact hcl _ (Zbf om))),trivial⟩,(Zmf hsd om om),trivial⟩ (Zbp ?_)
    refine Zdk [] [0,1,2,3,4,18,19,20,21,22] [] [slI false data,I a,I m,I b,.fn 64 [.ptr false [Zag false boxes]],I ((a+b)/2),I (((a+b)/2)+m),I (((start+r)/2)+1),I r,I ((((a+b)/2)+m)-1)] [] [inR .i64 (((start+r)/2)+1)] hB ⟨(Zah om om),trivial⟩ (Zay 9 ?_)
    exact Zaz _ om ⟨(((start+r)/2)+1),r,rfl,om,om,rfl⟩
   refine Zbm [(2,.dec false)] [0,1,2,3,4,18,19,20,21,22,151] [] [_] hB ⟨h6,trivial⟩ (Zab (Zbc (Zbr (Zai (Zai (Zaq (Zab ?_)))))))
   refine aQ [] [0,1,2,3,4,18,20,24] [] [inR .i64 ((((a+b)/2)+m)-start)] hB ⟨(Zah om om),trivial⟩ (Zae ?_)
   refine aQ [(2,.dec true),(6,.dec false)] [0,1,2,3,4,18,20,24,185] [] [start<m,¬ (m<((((a+b)/2)+m)-start))] hB ⟨om,om,trivial⟩ (Zbc (Zam (Zab (Zae ?_))))
   refine aR [(2,.dec true),(6,.dec false)] [0,1,3,4,18,20,24,199] [] [slI false data,I a,I b,.fn 64 [.ptr false [Zag false boxes]],I ((a+b)/2),I start,I ((((a+b)/2)+m)-start),Bv false] [] [a<start,¬ (start<((a+b)/2))] hB ⟨om,om,trivial⟩ (Zdc rfl (Zam (Zab ?_)))
   refine aQ [(2,.dec true),(6,.dec true)] [0,3,4,18,24,213] [] [((a+b)/2)<((((a+b)/2)+m)-start),((((a+b)/2)+m)-start)<b] hB ⟨om,om,trivial⟩ (Zbp ?_)
   refine Zdk [(5,.call [(true,.any),(true,.any),(true,.any),(true,.any),(true,.any)] true (.tup []))] [] [] [] [] [_∧True] hB ⟨⟨(ih data ((a+b)/2) ((((a+b)/2)+m)-start) b boxes om om om hsd hcl),trivial⟩,trivial⟩ ?_
   refine Zat hB (.tup []) (by kernel_rfl) (.inl rfl) rfl (fun _=>(by simp [Zaj,Zaf]))
  refine Zbm [(2,.dec false)] [0,1,2,3,4,18,19,140] [] [_] hB ⟨h5,trivial⟩ (Zab (Zbc ?_))
  refine aQ [] [0,1,2,3,4,18,19,20] [] [] hB trivial ?_
  refine Zbm [] [0,1,2,3,4,18,19,20,21] [] [] hB trivial (Zab ?_)
  refine aR [] [0,1,2,3,4,18,19,20,21,22] [] [slI false data,I a,I m,I b,.fn 64 [.ptr false [Zag false boxes]],I ((a+b)/2),I (((a+b)/2)+m),I a,I m,I ((((a+b)/2)+m)-1)] [] [inR .i64 ((((a+b)/2)+m)-1)] hB ⟨(Zah om om),trivial⟩ (Zae (Zao ?_))
  refine Zbq (fun gn gσ=>∃(start:Int) (r:Int),gn=(r-start).toNat∧((((a+b)/2)<m∧r=((a+b)/2)∧((a+b)/2)+m-b≤start∨m≤((a+b)/2)∧r=m∧a≤start))∧(start≤r)∧gσ=mkS [(0,slI false data),(1,I a),(2,I m),(3,I b),(4,.fn 64 [.ptr false [Zag false boxes]]),(18,I ((a+b)/2)),(19,I (((a+b)/2)+m)),(20,I start),(21,I r),(22,I ((((a+b)/2)+m)-1))] []) ((m-a).toNat) ⟨a,m,rfl,om,om,rfl⟩ (fun gn gσ hI=> ?_)
  obtain ⟨start,r,rfl,hr0,hs0,rfl⟩:=hI
  refine Zae (Zae ?_)
  by_cases h7:start<r
  ·refine Zbm [(2,.dec true)] [0,1,2,3,4,18,19,20,21,22,151] [] [_] hB ⟨h7,trivial⟩ (Zab (Zbp (Zam (Zab (Zao ?_)))))
   refine aQ [] [0,1,2,3,4,18,19,20,21,22,23] [] [inR .i64 (start+r),inR .u64 (start+r),(0:Int)≤1∧(1:Int)≤((IntKind.bits .u64:Nat):Int),inR .i64 ((start+r)/2)] hB ⟨(Zah om om),(Zeo om om),⟨(by decide),(by decide)⟩,(Zah om om),trivial⟩ ?_
   refine aQ [(11,.call [(true,.any),(true,.any),(true,.any)] true (I (cY boxes (at_ data ((((((a+b)/2)+m)-1)-((start+r)/2)).toNat)) (at_ data (((start+r)/2).toNat))))),(12,.dec false)] [0,1,2,3,4,18,19,20,21,22,23,171] [] [inR .i64 (((((a+b)/2)+m)-1)-((start+r)/2)),(0:Int)≤(((((a+b)/2)+m)-1)-((start+r)/2))∧(((((a+b)/2)+m)-1)-((start+r)/2))<(data.length:Int),(0:Int)≤((start+r)/2)∧((start+r)/2)<(data.length:Int),_∧True,¬ ((cY boxes (at_ data ((((((a+b)/2)+m)-1)-((start+r)/2)).toNat)) (at_ data (((start+r)/2).toNat)))<0)] hB ⟨(Zah om om),⟨om,om⟩,⟨om,om⟩,⟨(Zcr (at_ data ((((((a+b)/2)+m)-1)-((start+r)/2)).toNat)) (at_ data (((start+r)/2).toNat)) boxes (by first|omega|exact hcl _ (Zbf om)) (by first|omega|exact hcl _ (Zbf om))),trivial⟩,(Zmf hsd om om),trivial⟩ (Zbp ?_)
   refine Zdk [] [0,1,2,3,4,18,19,20,21,22] [] [slI false data,I a,I m,I b,.fn 64 [.ptr false [Zag false boxes]],I ((a+b)/2),I (((a+b)/2)+m),I (((start+r)/2)+1),I r,I ((((a+b)/2)+m)-1)] [] [inR .i64 (((start+r)/2)+1)] hB ⟨(Zah om om),trivial⟩ (Zay 9 ?_)
   exact Zaz _ om ⟨(((start+r)/2)+1),r,rfl,om,om,rfl⟩
  refine Zbm [(2,.dec false)] [0,1,2,3,4,18,19,20,21,22,151] [] [_] hB ⟨h7,trivial⟩ (Zab (Zbc (Zbr (Zai (Zai (Zaq (Zab ?_)))))))
  refine aQ [] [0,1,2,3,4,18,20,24] [] [inR .i64 ((((a+b)/2)+m)-start)] hB ⟨(Zah om om),trivial⟩ (Zae ?_)
  refine aQ [(2,.dec false)] [0,1,2,3,4,18,20,24,185] [] [¬ (start<m)] hB ⟨om,trivial⟩ (Zbc (Zam (Zab (Zae (Zae ?_)))))
  by_cases h8:start<((a+b)/2)
  ·refine Zdk [(2,.dec true),(6,.dec true)] [0,1,3,4,18,20,24,199] [] [slI false data,I a,I b,.fn 64 [.ptr false [Zag false boxes]],I ((a+b)/2),I start,I ((((a+b)/2)+m)-start),Bv true] [] [a<start,_] hB ⟨om,h8,trivial⟩ (Zab (Zhg rfl ?_))
   refine Zbm [(5,.call [(true,.any),(true,.any),(true,.any),(true,.any),(true,.any)] true (.tup []))] [0,3,4,18,24] [] [_∧True] hB ⟨⟨(ih data a start ((a+b)/2) boxes om om om hsd hcl),trivial⟩,trivial⟩ (Zab ?_)
   refine aR [(2,.dec false)] [0,3,4,18,24,213] [] [slI false data,I b,.fn 64 [.ptr false [Zag false boxes]],I ((a+b)/2),I ((((a+b)/2)+m)-start),Bv false] [] [¬ (((a+b)/2)<((((a+b)/2)+m)-start))] hB ⟨om,trivial⟩ (Zdc rfl (Zam ?_))
   refine Zat hB (.tup []) (by kernel_rfl) (.inl rfl) rfl (fun _=>(by simp [Zaj,Zaf]))
  refine Zbm [(2,.dec true),(6,.dec false)] [0,1,3,4,18,20,24,199] [] [a<start,_] hB ⟨om,h8,trivial⟩ (Zab (Zbc (Zam (Zab ?_))))
  refine aR [(2,.dec false)] [0,3,4,18,24,213] [] [slI false data,I b,.fn 64 [.ptr false [Zag false boxes]],I ((a+b)/2),I ((((a+b)/2)+m)-start),Bv false] [] [¬ (((a+b)/2)<((((a+b)/2)+m)-start))] hB ⟨om,trivial⟩ (Zdc rfl (Zam ?_))
  refine Zat hB (.tup []) (by kernel_rfl) (.inl rfl) rfl (fun _=>(by simp [Zaj,Zaf]))
theorem Zvq:∀(N:Nat) (data:List Int) (a m b:Int) (boxes:List Box),(b-a).toNat≤N→0≤a∧a<m∧m<b∧b≤(data.length:Int)→data.length≤1000→Zmm (cY boxes) data→(∀x∈data,0≤x∧x<(boxes.length:Int))→Con Try.prog 85 [slI false data,I a,I m,I b,.fn 64 [.ptr false [Zag false boxes]]] true (.tup []):=by
 intro N
 induction N with
 |zero=>intro data a m b boxes h1 h2;omega
 |succ N ih=>intro data a m b boxes h1 h2 h3 h4 h5;exact Zsx data a m b boxes (N+1) (fun data a m b boxes h1 h2 h3 h4 h5=>ih data a m b boxes om h2 h3 h4 h5) h1 h2 h3 h4 h5
theorem Zrn (data:List Int) (a m b:Int) (boxes:List Box) (hb:0≤a∧a<m∧m<b∧b≤(data.length:Int)) (hl:data.length≤1000) (hsd:Zmm (cY boxes) data) (hcl:∀x∈data,0≤x∧x<(boxes.length:Int)):Con Try.prog 85 [slI false data,I a,I m,I b,.fn 64 [.ptr false [Zag false boxes]]] true (.tup []):=Zvq _ data a m b boxes (Nat.le_refl _) hb hl hsd hcl
theorem Zyl (data:List Int) (n:Int) (boxes:List Box) (hb:n=(data.length:Int)) (hl:data.length≤1000) (hsd:Zmm (cY boxes) data) (hcl:∀x∈data,0≤x∧x<(boxes.length:Int)):Con Try.prog 76 [slI false data,I n,.fn 64 [.ptr false [Zag false boxes]]] true (.tup []):=by
  refine Zcn (fn:=Try.f76) (nt:=63) Try.func76 rfl rfl rfl rfl (by simp [Zaf,Zaj,Zbz,Zje]) fun B hB=> ?_
  refine Zbk (x:=slI false data) 0 rfl (fun len_data=> ?_)
  simp [Zco,Zfb,cI,fI,slI] at len_data
  refine aQ [] [0,1,2,6] [] [] hB trivial ?_
  refine aR [] [0,1,2,6,7,8] [] [slI false data,I n,.fn 64 [.ptr false [Zag false boxes]],I 20,I 0,I 20] [] [] hB trivial (Zae (Zao ?_))
  refine Zbq (fun gn gσ=>∃(a:Int) (b:Int),gn=(n-a).toNat∧(0≤a∧b=a+20∧a≤n)∧gσ=mkS [(0,slI false data),(1,I n),(2,.fn 64 [.ptr false [Zag false boxes]]),(6,I 20),(7,I a),(8,I b)] []) ((n-0).toNat) ⟨0,20,rfl,om,rfl⟩ (fun gn gσ hI=> ?_)
  obtain ⟨a,b,rfl,ha0,rfl⟩:=hI
  refine Zae (Zae ?_)
  by_cases h1:b≤n
  ·refine Zbm [(2,.dec true)] [0,1,2,6,7,8,13] [] [_] hB ⟨h1,trivial⟩ (Zab (Zbp (Zam (Zab (Zao ?_)))))
   refine aQ [(4,.call [(true,.any),(true,.any),(true,.any),(true,.any)] true (.tup []))] [0,1,2,6,8] [] [_∧True] hB ⟨⟨(Zrm data a b boxes om om hsd hcl),trivial⟩,trivial⟩ ?_
   refine aQ [] [0,1,2,6,7,8] [] [] hB trivial ?_
   refine Zdk [] [0,1,2,6,7,8] [] [slI false data,I n,.fn 64 [.ptr false [Zag false boxes]],I 20,I b,I (b+20)] [] [inR .i64 (b+20)] hB ⟨(Zah om om),trivial⟩ (Zay 1 ?_)
   exact Zaz _ om ⟨b,(b+20),rfl,om,rfl⟩
  refine Zbm [(2,.dec false)] [0,1,2,6,7,8,13] [] [_] hB ⟨h1,trivial⟩ (Zab (Zbc (Zbr (Zai (Zai (Zaq (Zab ?_)))))))
  refine aR [(4,.call [(true,.any),(true,.any),(true,.any),(true,.any)] true (.tup []))] [0,1,2,6] [] [slI false data,I n,.fn 64 [.ptr false [Zag false boxes]],I 20] [] [_∧True] hB ⟨⟨(Zrm data a n boxes om om hsd hcl),trivial⟩,trivial⟩ (Zao ?_)
  refine Zbq (fun gn gσ=>∃(blockSize:Int),gn=(n-blockSize).toNat∧(20≤blockSize∧blockSize≤2000)∧gσ=mkS [(0,slI false data),(1,I n),(2,.fn 64 [.ptr false [Zag false boxes]]),(6,I blockSize)] []) ((n-20).toNat) ⟨20,rfl,om,rfl⟩ (fun gn gσ hI=> ?_)
  obtain ⟨blockSize,rfl,hbs,rfl⟩:=hI
  refine Zae (Zae ?_)
  by_cases h2:blockSize<n
  ·refine Zbm [(2,.dec true)] [0,1,2,6,30] [] [_] hB ⟨h2,trivial⟩ (Zab (Zbp (Zam (Zab (Zao ?_)))))
   refine aR [] [0,1,2,6,7,8] [] [slI false data,I n,.fn 64 [.ptr false [Zag false boxes]],I blockSize,I 0,I (2*blockSize)] [] [inR .i64 (2*blockSize)] hB ⟨(Zah om om),trivial⟩ (Zae (Zao ?_))
   refine Zbq (fun gn gσ=>∃(a':Int) (b':Int),gn=(n-a').toNat∧(0≤a'∧b'=a'+2*blockSize∧a'≤n)∧gσ=mkS [(0,slI false data),(1,I n),(2,.fn 64 [.ptr false [Zag false boxes]]),(6,I blockSize),(7,I a'),(8,I b')] []) ((n-0).toNat) ⟨0,(2*blockSize),rfl,om,rfl⟩ (fun gn gσ hI=> ?_)
   obtain ⟨a',b',rfl,ha1,rfl⟩:=hI
   refine Zae (Zae ?_)
   by_cases h3:b'≤n
   ·refine Zbm [(2,.dec true)] [0,1,2,6,7,8,35] [] [_] hB ⟨h3,trivial⟩ (Zab (Zbp (Zam (Zab (Zao ?_)))))
    refine aQ [(7,.call [(true,.any),(true,.any),(true,.any),(true,.any),(true,.any)] true (.tup []))] [0,1,2,6,8] [] [inR .i64 (a'+blockSize),_∧True] hB ⟨(Zah om om),⟨(Zrn data a' (a'+blockSize) b' boxes om om hsd hcl),trivial⟩,trivial⟩ ?_
    refine aQ [] [0,1,2,6,7,8] [] [] hB trivial ?_
    refine Zdk [] [0,1,2,6,7,8] [] [slI false data,I n,.fn 64 [.ptr false [Zag false boxes]],I blockSize,I b',I (b'+(2*blockSize))] [] [inR .i64 (2*blockSize),inR .i64 (b'+(2*blockSize))] hB ⟨(Zah om om),(Zah om om),trivial⟩ (Zay 5 ?_)
    exact Zaz _ om ⟨b',(b'+(2*blockSize)),rfl,om,rfl⟩
   refine Zbm [(2,.dec false)] [0,1,2,6,7,8,35] [] [_] hB ⟨h3,trivial⟩ (Zab (Zbc (Zbr (Zai (Zai (Zaq (Zab (Zae ?_))))))))
   refine aQ [] [0,1,2,6,7,9] [] [inR .i64 (a'+blockSize)] hB ⟨(Zah om om),trivial⟩ (Zae ?_)
   by_cases h4:(a'+blockSize)<n
   ·refine Zbm [(2,.dec true)] [0,1,2,6,7,9,54] [] [_] hB ⟨h4,trivial⟩ (Zab (Zbp ?_))
    refine Zdk [(5,.call [(true,.any),(true,.any),(true,.any),(true,.any),(true,.any)] true (.tup []))] [0,1,2,6] [] [slI false data,I n,.fn 64 [.ptr false [Zag false boxes]],I blockSize] [] [_∧True] hB ⟨⟨(Zrn data a' (a'+blockSize) n boxes om om hsd hcl),trivial⟩,trivial⟩ (Zab ?_)
    refine Zdk [] [0,1,2,6] [] [slI false data,I n,.fn 64 [.ptr false [Zag false boxes]],I (blockSize*2)] [] [inR .i64 (blockSize*2)] hB ⟨(Zah om om),trivial⟩ (Zay 3 ?_)
    exact Zaz _ om ⟨(blockSize*2),rfl,om,rfl⟩
   refine Zbm [(2,.dec false)] [0,1,2,6,7,9,54] [] [_] hB ⟨h4,trivial⟩ (Zab (Zbc (Zam (Zab ?_))))
   refine Zdk [] [0,1,2,6] [] [slI false data,I n,.fn 64 [.ptr false [Zag false boxes]],I (blockSize*2)] [] [inR .i64 (blockSize*2)] hB ⟨(Zah om om),trivial⟩ (Zay 3 ?_)
   exact Zaz _ om ⟨(blockSize*2),rfl,om,rfl⟩
  refine Zdk [(2,.dec false)] [0,1,2,6,30] [] [slI false data,I n,.fn 64 [.ptr false [Zag false boxes]],I blockSize,Bv false] [] [_] hB ⟨h2,trivial⟩ (Zab (Zdc rfl (Zbr (Zai (Zai (Zaq ?_))))))
  refine Zat hB (.tup []) (by kernel_rfl) (.inl rfl) rfl (fun _=>(by simp [Zaj,Zaf]))
theorem Zvr (data:List Int) (boxes:List Box) (hl:data.length=60) (hsd:Zmm (cY boxes) data) (hcl:∀x∈data,0≤x∧x<(boxes.length:Int)):∃(data':List Int),(data'=data)∧Zap Try.prog 63 [.arr 7214,.fn 64 [.ptr false [Zag false boxes]]] (Zac [(7214,tAI data)]) true (.tup []) (Zac [(7214,tAI data')]):=by
 have hh:∃r:(List Int),((r=data)∧(True))∧Zap Try.prog 63 [.arr 7214,.fn 64 [.ptr false [Zag false boxes]]] (Zac [(7214,tAI data)]) true (.tup []) (Zac [(7214,tAI r)]):=by
  refine Zda (Φ:=fun r:(List Int)=>(r=data)∧(True)) [(7214,tAI data)] (fun r=>[(7214,tAI r)]) (fn:=Try.f63) (nt:=9) Try.func63 rfl rfl (args:=[.arr 7214,.fn 64 [.ptr false [Zag false boxes]]]) rfl (Zax (.inr trivial) (Zax (.inl ⟨rfl,by simp [Zaj,Zaf,Zbz]⟩) Zcz)) (res:=fun r=> .tup []) ?_
  refine x_r [(4,.call [(false,slI false data),(true,.any),(true,.any)] true (.tup []))] [] [7214] [] [some (tAI data)] [_∧((false=true→true=true)∧1=1∧data.length=data.length∧∀i_,i_<data.length→(fI data) i_=(fI data) i_∨(AV.idsL ((fI data) i_)=[]∧leL (fun _=>none) false ((fI data) i_) ((fI data) i_)))∧True] ⟨⟨(Zyl data (data.length:Int) boxes om om hsd hcl),⟨(fun h=>by cases h),rfl,rfl,fun i _=> .inl rfl⟩,trivial⟩,trivial⟩ ?_
  refine Zii data (show (data=data)∧(True) from ⟨(by first|rfl|assumption),trivial⟩) (⟨.inl rfl,trivial⟩) (.tup []) (by kernel_rfl) (.inl rfl) (fun _=>rfl) (fun _=>(by simp [Zaj,Zaf]))
 obtain ⟨data',⟨hh0,_⟩,hc⟩:=hh
 exact ⟨data',hh0,hc⟩
theorem sYins_ok (data:List Int) (a:Int) (b:Int) (boxes:List Box) (hb:a=0∧b=(data.length:Int)) (hl:data.length<20) (hcl:∀x∈data,0≤x∧x<(boxes.length:Int)):∃(data':List Int),(data'=Zce (cY boxes) data data.length)∧Zap Try.prog 84 [.arr 7214,I a,I b,.fn 64 [.ptr false [Zag false boxes]]] (Zac [(7214,tAI data)]) true (.tup []) (Zac [(7214,tAI data')]):=by
  have hh:∃r:(List Int),((r=Zce (cY boxes) data data.length)∧(True))∧Zap Try.prog 84 [.arr 7214,I a,I b,.fn 64 [.ptr false [Zag false boxes]]] (Zac [(7214,tAI data)]) true (.tup []) (Zac [(7214,tAI r)]):=by
    refine Zda (Φ:=fun r:(List Int)=>(r=Zce (cY boxes) data data.length)∧(True)) [(7214,tAI data)] (fun r=>[(7214,tAI r)]) (fn:=Try.f84) (nt:=53) Try.func84 rfl rfl (args:=[.arr 7214,I a,I b,.fn 64 [.ptr false [Zag false boxes]]]) rfl (Zax (.inr trivial) (Zax (.inl ⟨rfl,trivial⟩) (Zax (.inl ⟨rfl,trivial⟩) (Zax (.inl ⟨rfl,by simp [Zaj,Zaf,Zbz]⟩) Zcz)))) (res:=fun r=> .tup []) ?_
    refine xR [] [0,1,2,3,8] [7214] [.arr 7214,I a,I b,.fn 64 [.ptr false [Zag false boxes]],I (a+1)] [some (tAI data)] [inR .i64 (a+1)] ⟨(Zah om om),trivial⟩ (Zby ?_)
    refine Zfn (X:=Int×(List Int)) (fun x=>mkS [(0,.arr 7214),(1,I a),(2,I b),(3,.fn 64 [.ptr false [Zag false boxes]]),(8,I x.1)] [(7214,tAI x.2)]) (fun x=>(1≤x.1∧(x.1≤(data.length:Int)∨x.1=1))∧(x.2=Zce (cY boxes) data (min x.1.toNat data.length)++data.drop x.1.toNat)∧True) (fun x=>((data.length:Int)-x.1).toNat) ((a+1),data) rfl (show (1≤(a+1)∧((a+1)≤(data.length:Int)∨(a+1)=1))∧(data=Zce (cY boxes) data (min (a+1).toNat data.length)++data.drop (a+1).toNat)∧True from ⟨om,(by first|exact Zjl _ _|(rw [show (a+1).toNat=1 from by omega];exact Zjl _ _)),trivial⟩) (fun x hI=> ?_)
    obtain ⟨i,ys⟩:=x
    obtain ⟨hi0,hys,_⟩:(1≤i∧(i≤(data.length:Int)∨i=1))∧(ys=Zce (cY boxes) data (min i.toNat data.length)++data.drop i.toNat)∧True:=hI
    show XW _ _ _ _ (mkS [(0,.arr 7214),(1,I a),(2,I b),(3,.fn 64 [.ptr false [Zag false boxes]]),(8,I i)] [(7214,tAI ys)]) _ _
    refine Zau (Zau ?_)
    by_cases h1:i<b
    ·have hi:i.toNat<data.length:=by omega
     have hmi:min i.toNat data.length=i.toNat:=by omega
     rw [hmi,iso_in hi] at hys
     have hpl:=Zer (cY boxes) data i.toNat
     have hyl:ys.length=data.length:=by rw [hys,List.length_append,Zgz om,List.length_drop,hpl];omega
     refine x_q [(2,.dec true)] [0,1,2,3,8,14] [7214] [_] ⟨h1,trivial⟩ (Zad (Zib (Zca (Zad (Zau (Zby ?_))))))
     refine xR [] [0,1,2,3,8,9] [7214] [.arr 7214,I a,I b,.fn 64 [.ptr false [Zag false boxes]],I i,I i] [some (tAI ys)] [] trivial (Zby ?_)
     refine Zfn (X:=Int×(List Int)) (fun x=>mkS [(0,.arr 7214),(1,I a),(2,I b),(3,.fn 64 [.ptr false [Zag false boxes]]),(8,I i),(9,I x.1)] [(7214,tAI x.2)]) (fun x=>(0≤x.1∧x.1≤i)∧(x.2=Zhz (Zce (cY boxes) data i.toNat) (at_ data i.toNat) x.1.toNat++data.drop (i.toNat+1))∧(∀k:Nat,x.1≤(k:Int)→(k:Int)<i→(cY boxes) (at_ data i.toNat) (at_ (Zce (cY boxes) data i.toNat) k)<0)∧True) (fun x=>x.1.toNat) (i,ys) rfl (show (0≤i∧i≤i)∧(ys=Zhz (Zce (cY boxes) data i.toNat) (at_ data i.toNat) i.toNat++data.drop (i.toNat+1))∧(∀k:Nat,i≤(k:Int)→(k:Int)<i→(cY boxes) (at_ data i.toNat) (at_ (Zce (cY boxes) data i.toNat) k)<0)∧True from ⟨om,(by first|exact hys|(rw [hys];done)),(by intro k h1 h2;omega),trivial⟩) (fun x hI=> ?_)
     obtain ⟨j,ys'⟩:=x
     obtain ⟨hj0,hin,hgt,_⟩:(0≤j∧j≤i)∧(ys'=Zhz (Zce (cY boxes) data i.toNat) (at_ data i.toNat) j.toNat++data.drop (i.toNat+1))∧(∀k:Nat,j≤(k:Int)→(k:Int)<i→(cY boxes) (at_ data i.toNat) (at_ (Zce (cY boxes) data i.toNat) k)<0)∧True:=hI
     show XW _ _ _ _ (mkS [(0,.arr 7214),(1,I a),(2,I b),(3,.fn 64 [.ptr false [Zag false boxes]]),(8,I i),(9,I j)] [(7214,tAI ys')]) _ _
     refine Zau (Zau ?_)
     by_cases h2:a<j
     ·have hyl':ys'.length=data.length:=by rw [hin,List.length_append,Zgz om,List.length_drop,hpl];omega
      have e1:at_ ys' j.toNat=(at_ data i.toNat):=by rw [hin];exact Zym om
      have e2:at_ ys' (j-1).toNat=at_ (Zce (cY boxes) data i.toNat) (j.toNat-1):=by rw [hin,Zjm om om];congr 1;omega
      have hce1:=hcl _ (Zbf hi)
      rw [←e1] at hce1
      have hce2:=Zlx (c:=(cY boxes)) hcl i.toNat om _ (Zbf (xs:=(Zce (cY boxes) data i.toNat)) (i:=j.toNat-1) om)
      rw [←e2] at hce2
      by_cases h3:(cY boxes (at_ ys' j.toNat) (at_ ys' ((j-1).toNat)))<0
      ·have hq:=h3
       rw [e1,e2] at hq
       have hst:(ys'.set j.toNat (at_ ys' (j-1).toNat)).set (j-1).toNat (at_ ys' j.toNat)=Zhz (Zce (cY boxes) data i.toNat) (at_ data i.toNat) (j-1).toNat++data.drop (i.toNat+1):=by have q:=Zup (p:=(Zce (cY boxes) data i.toNat)) (x:=(at_ data i.toNat)) (r:=data.drop (i.toNat+1)) (j:=(j-1).toNat) om;rw [show (j-1).toNat+1=j.toNat from by omega] at q;rw [e1,e2,hin,←q,show j.toNat-1=(j-1).toNat from by omega]
       have hgn:∀k:Nat,j-1≤(k:Int)→(k:Int)<i→(cY boxes) (at_ data i.toNat) (at_ (Zce (cY boxes) data i.toNat) k)<0:=fun k h1 h2=>by by_cases e:(k:Int)=j-1;(rw [show k=j.toNat-1 from by omega];exact hq);exact hgt k om h2
       refine x_q [(2,.dec true),(14,.call [(true,.any),(true,.any),(true,.any)] true (I (cY boxes (at_ ys' j.toNat) (at_ ys' ((j-1).toNat))))),(15,.dec true)] [0,1,2,3,8,9,34] [7214] [_,(0:Int)≤j∧j<(ys'.length:Int),j.toNat<ys'.length,inR .i64 (j-1),(0:Int)≤(j-1)∧(j-1)<(ys'.length:Int),(j-1).toNat<ys'.length,_∧True,_] ⟨h2,⟨om,om⟩,om,(Zah om om),⟨om,om⟩,om,⟨(Zcr (at_ ys' j.toNat) (at_ ys' ((j-1).toNat)) boxes (by first|omega|exact hcl _ (Zbf om)) (by first|omega|exact hcl _ (Zbf om))),trivial⟩,h3,trivial⟩ (Zad (Zib (Zca (Zad (Zau (Zby ?_))))))
       refine x_q [] [0,1,2,3,8,9] [7214] [inR .i64 (j-1),inR .i64 (j-1),(0:Int)≤(j-1)∧(j-1)<(ys'.length:Int),(j-1).toNat<ys'.length,(0:Int)≤j∧j<(ys'.length:Int),j.toNat<ys'.length,(0:Int)≤j∧j<(ys'.length:Int),j.toNat<ys'.length,(0:Int)≤(j-1)∧(j-1)<(ys'.length:Int),(j-1).toNat<ys'.length] ⟨(Zah om om),(Zah om om),⟨om,om⟩,om,⟨om,om⟩,om,⟨om,om⟩,om,⟨om,om⟩,om,trivial⟩ (Zbt 3 (Zad ?_))
       refine x_r [] [0,1,2,3,8,9] [7214] [.arr 7214,I a,I b,.fn 64 [.ptr false [Zag false boxes]],I i,I (j-1)] [some (.arr 1 ys'.length (fun q=>bif Nat.beq q ((j-1).toNat) then spl ((fun q=>bif Nat.beq q j.toNat then [I (at_ ys' ((j-1).toNat))] else (fI ys') q) ((j-1).toNat)) 0 [I (at_ ys' j.toNat)] else (fun q=>bif Nat.beq q j.toNat then [I (at_ ys' ((j-1).toNat))] else (fI ys') q) q))] [inR .i64 (j-1)] ⟨(Zah om om),trivial⟩ ?_
       refine Zdl [] (T:=[(0,.arr 7214),(1,I a),(2,I b),(3,.fn 64 [.ptr false [Zag false boxes]]),(8,I i),(9,I (j-1))]) (O:=[(7214,tAI ((ys'.set j.toNat (at_ ys' ((j-1).toNat))).set ((j-1).toNat) (at_ ys' j.toNat)))]) rfl (⟨.inl rfl,.inl rfl,.inl rfl,.inl rfl,.inl rfl,.inl rfl,trivial⟩) (⟨.inr ⟨rfl,(by first|rfl|(simp;done)|(simp;omega)|omega),fun i_ hi_=> .inl (Zxv (enc:=cI) (fun i_ hi_=>(Zgn (enc:=cI) rfl i_ hi_)) ((by first|omega|(simp only [List.length_set];omega))) rfl i_ hi_)⟩,trivial⟩) (Zcs ((j-1),((ys'.set j.toNat (at_ ys' ((j-1).toNat))).set ((j-1).toNat) (at_ ys' j.toNat))) rfl (show (0≤(j-1)∧(j-1)≤i)∧(((ys'.set j.toNat (at_ ys' ((j-1).toNat))).set ((j-1).toNat) (at_ ys' j.toNat))=Zhz (Zce (cY boxes) data i.toNat) (at_ data i.toNat) (j-1).toNat++data.drop (i.toNat+1))∧(∀k:Nat,(j-1)≤(k:Int)→(k:Int)<i→(cY boxes) (at_ data i.toNat) (at_ (Zce (cY boxes) data i.toNat) k)<0)∧True from ⟨om,(by exact hst),(by exact hgn),trivial⟩) (by first|(show ((j-1).toNat:Nat)<j.toNat;omega)|(dsimp only;omega)))
      have hq:=h3
      rw [e1,e2] at hq
      have hio:=Zps (c:=(cY boxes)) (xs:=data) (i:=i.toNat) (j:=j.toNat) om (fun k h1 h2=>hgt k om om) (Or.inr hq)
      rw [hio] at hin
      refine x_r [(2,.dec true),(14,.call [(true,.any),(true,.any),(true,.any)] true (I (cY boxes (at_ ys' j.toNat) (at_ ys' ((j-1).toNat))))),(15,.dec false)] [0,1,2,3,8,9,34] [7214] [.arr 7214,I a,I b,.fn 64 [.ptr false [Zag false boxes]],I i,I j,Bv false] [some (tAI ys')] [_,(0:Int)≤j∧j<(ys'.length:Int),j.toNat<ys'.length,inR .i64 (j-1),(0:Int)≤(j-1)∧(j-1)<(ys'.length:Int),(j-1).toNat<ys'.length,_∧True,_] ⟨h2,⟨om,om⟩,om,(Zah om om),⟨om,om⟩,om,⟨(Zcr (at_ ys' j.toNat) (at_ ys' ((j-1).toNat)) boxes (by first|omega|exact hcl _ (Zbf om)) (by first|omega|exact hcl _ (Zbf om))),trivial⟩,h3,trivial⟩ (Zad (Zde rfl (Zdy (Zbd ?_))))
      refine Zbj ?_
      refine Zbe (Zbt 1 (Zad ?_))
      refine x_r [] [0,1,2,3,8] [7214] [.arr 7214,I a,I b,.fn 64 [.ptr false [Zag false boxes]],I (i+1)] [some (tAI ys')] [inR .i64 (i+1)] ⟨(Zah om om),trivial⟩ ?_
      exact Zcs ((i+1),ys') rfl (show (1≤(i+1)∧((i+1)≤(data.length:Int)∨(i+1)=1))∧(ys'=Zce (cY boxes) data (min (i+1).toNat data.length)++data.drop (i+1).toNat)∧True from ⟨om,(by rw [hin,show (i+1).toNat=i.toNat+1 from by omega,show min (i.toNat+1) data.length=i.toNat+1 from by omega]),trivial⟩) (by first|(show (((data.length:Int)-(i+1)).toNat:Nat)<((data.length:Int)-i).toNat;omega)|(dsimp only;omega))
     have hio:=Zps (c:=(cY boxes)) (xs:=data) (i:=i.toNat) (j:=j.toNat) om (fun k h1 h2=>hgt k om om) (Or.inl om)
     rw [hio] at hin
     refine x_r [(2,.dec false)] [0,1,2,3,8,9,34] [7214] [.arr 7214,I a,I b,.fn 64 [.ptr false [Zag false boxes]],I i,I j,Bv false] [some (tAI ys')] [_] ⟨h2,trivial⟩ (Zad (Zde rfl (Zdy (Zbd ?_))))
     refine Zbj ?_
     refine Zbe (Zbt 1 (Zad ?_))
     refine x_r [] [0,1,2,3,8] [7214] [.arr 7214,I a,I b,.fn 64 [.ptr false [Zag false boxes]],I (i+1)] [some (tAI ys')] [inR .i64 (i+1)] ⟨(Zah om om),trivial⟩ ?_
     exact Zcs ((i+1),ys') rfl (show (1≤(i+1)∧((i+1)≤(data.length:Int)∨(i+1)=1))∧(ys'=Zce (cY boxes) data (min (i+1).toNat data.length)++data.drop (i+1).toNat)∧True from ⟨om,(by rw [hin,show (i+1).toNat=i.toNat+1 from by omega,show min (i.toNat+1) data.length=i.toNat+1 from by omega]),trivial⟩) (by first|(show (((data.length:Int)-(i+1)).toNat:Nat)<((data.length:Int)-i).toNat;omega)|(dsimp only;omega))
    have hyf:ys=Zce (cY boxes) data data.length:=by rw [hys,show min i.toNat data.length=data.length from by omega,List.drop_eq_nil_of_le om,List.append_nil]
    refine x_r [(2,.dec false)] [0,1,2,3,8,14] [7214] [.arr 7214,I a,I b,.fn 64 [.ptr false [Zag false boxes]],I i,Bv false] [some (tAI ys)] [_] ⟨h1,trivial⟩ (Zad (Zde rfl (Zdy (Zbd ?_))))
    refine Zbj ?_
    refine Zbe ?_
    refine Zii ys (show (ys=Zce (cY boxes) data data.length)∧(True) from ⟨(by exact hyf),trivial⟩) (⟨.inl rfl,trivial⟩) (.tup []) (by kernel_rfl) (.inl rfl) (fun _=>rfl) (fun _=>(by simp [Zaj,Zaf]))
  obtain ⟨data',⟨hh0,_⟩,hc⟩:=hh
  exact ⟨data',hh0,hc⟩
theorem sYstb_ok (data:List Int) (n:Int) (boxes:List Box) (hb:n=(data.length:Int)) (hl:data.length<20) (hcl:∀x∈data,0≤x∧x<(boxes.length:Int)):∃(data':List Int),(data'=Zce (cY boxes) data data.length)∧Zap Try.prog 76 [.arr 7214,I n,.fn 64 [.ptr false [Zag false boxes]]] (Zac [(7214,tAI data)]) true (.tup []) (Zac [(7214,tAI data')]):=by
 have hh:∃r:(List Int),((r=Zce (cY boxes) data data.length)∧(True))∧Zap Try.prog 76 [.arr 7214,I n,.fn 64 [.ptr false [Zag false boxes]]] (Zac [(7214,tAI data)]) true (.tup []) (Zac [(7214,tAI r)]):=by
  refine Zda (Φ:=fun r:(List Int)=>(r=Zce (cY boxes) data data.length)∧(True)) [(7214,tAI data)] (fun r=>[(7214,tAI r)]) (fn:=Try.f76) (nt:=63) Try.func76 rfl rfl (args:=[.arr 7214,I n,.fn 64 [.ptr false [Zag false boxes]]]) rfl (Zax (.inr trivial) (Zax (.inl ⟨rfl,trivial⟩) (Zax (.inl ⟨rfl,by simp [Zaj,Zaf,Zbz]⟩) Zcz))) (res:=fun r=> .tup []) ?_
  refine xQ [] [0,1,2,6] [7214] [] trivial ?_
  refine xR [] [0,1,2,6,7,8] [7214] [.arr 7214,I n,.fn 64 [.ptr false [Zag false boxes]],I 20,I 0,I 20] [some (tAI data)] [] trivial (Zau (Zby ?_))
  refine Zfn (X:=Int×Int×(List Int)) (fun x=>mkS [(0,.arr 7214),(1,I n),(2,.fn 64 [.ptr false [Zag false boxes]]),(6,I 20),(7,I x.1),(8,I x.2.1)] [(7214,tAI x.2.2)]) (fun x=>(x.1=0∧x.2.1=20)∧(x.2.2=data)∧True) (fun x=>(0:Nat)) (0,20,data) rfl (show ((0:Int)=0∧(20:Int)=20)∧(data=data)∧True from ⟨om,(by rfl),trivial⟩) (fun x hI=> ?_)
  obtain ⟨a,b,ys⟩:=x
  obtain ⟨hab,hyd,_⟩:(a=0∧b=20)∧(ys=data)∧True:=hI
  show XW _ _ _ _ (mkS [(0,.arr 7214),(1,I n),(2,.fn 64 [.ptr false [Zag false boxes]]),(6,I 20),(7,I a),(8,I b)] [(7214,tAI ys)]) _ _
  refine Zau ?_
  refine xR [(2,.dec false)] [0,1,2,6,7,8,13] [7214] [.arr 7214,I n,.fn 64 [.ptr false [Zag false boxes]],I 20,I a,I b,Bv false] [some (tAI ys)] [¬ (b≤n)] ⟨om,trivial⟩ (Zde rfl (Zdy (Zbd ?_)))
  refine Zbj ?_
  refine Zbe (Zad (Zau ?_))
  obtain ⟨data'_1,hx1_0,hc1⟩:=sYins_ok ys a n boxes (by first|omega|(subst_vars;omega)) (by first|omega|(subst_vars;omega)) (by first|exact hcl|(rw [hyd];exact hcl))
  refine x_r [(4,.lend [(7214,tAI ys,tAI data'_1)] [] [(true,.any),(true,.any),(true,.any),(true,.any)] true (.tup []))] [0,1,2,6] [7214] [.arr 7214,I n,.fn 64 [.ptr false [Zag false boxes]],I 20] [some (tAI data'_1)] [Zap Try.prog 84 [.arr 7214,I a,I n,.fn 64 [.ptr false [Zag false boxes]]] (Zac [(7214,tAI ys)]) true (.tup []) (Zac [(7214,tAI data'_1)])∧(((tAI ys:Ob)=tAI ys∨Zdt Zdh true (tAI ys) (tAI ys))∧Zal false (tAI ys))∧True] ⟨⟨hc1,⟨.inl rfl,fun _ _=>Zro false _⟩,trivial⟩,trivial⟩ (Zad (Zby ?_))
  refine Zfn (X:=Int) (fun x=>mkS [(0,.arr 7214),(1,I n),(2,.fn 64 [.ptr false [Zag false boxes]]),(6,I x)] [(7214,tAI data'_1)]) (fun x=>(x=20)∧True) (fun x=>(0:Nat)) 20 rfl (show ((20:Int)=20)∧True from ⟨(by first|rfl|omega),trivial⟩) (fun x hI=> ?_)
  obtain ⟨blockSize,hxx⟩:∃blockSize:Int,blockSize=x:=⟨x,rfl⟩
  subst hxx
  obtain ⟨hbs,_⟩:(blockSize=20)∧True:=hI
  show XW _ _ _ _ (mkS [(0,.arr 7214),(1,I n),(2,.fn 64 [.ptr false [Zag false boxes]]),(6,I blockSize)] [(7214,tAI data'_1)]) _ _
  refine Zau ?_
  refine xR [(2,.dec false)] [0,1,2,6,30] [7214] [.arr 7214,I n,.fn 64 [.ptr false [Zag false boxes]],I blockSize,Bv false] [some (tAI data'_1)] [¬ (blockSize<n)] ⟨om,trivial⟩ (Zde rfl (Zdy (Zbd ?_)))
  refine Zbj ?_
  refine Zbe ?_
  refine Zii data'_1 (show (data'_1=Zce (cY boxes) data data.length)∧(True) from ⟨(by first|assumption|(rw [hx1_0,hyd])),trivial⟩) (⟨.inl rfl,trivial⟩) (.tup []) (by kernel_rfl) (.inl rfl) (fun _=>rfl) (fun _=>(by simp [Zaj,Zaf]))
 obtain ⟨data',⟨hh0,_⟩,hc⟩:=hh
 exact ⟨data',hh0,hc⟩
theorem Zyn (data:List Int) (boxes:List Box) (hl:data.length<20) (hcl:∀x∈data,0≤x∧x<(boxes.length:Int)):∃(data':List Int),(data'=Zce (cY boxes) data data.length)∧Zap Try.prog 63 [.arr 7214,.fn 64 [.ptr false [Zag false boxes]]] (Zac [(7214,tAI data)]) true (.tup []) (Zac [(7214,tAI data')]):=by
 have hh:∃r:(List Int),((r=Zce (cY boxes) data data.length)∧(True))∧Zap Try.prog 63 [.arr 7214,.fn 64 [.ptr false [Zag false boxes]]] (Zac [(7214,tAI data)]) true (.tup []) (Zac [(7214,tAI r)]):=by
  refine Zda (Φ:=fun r:(List Int)=>(r=Zce (cY boxes) data data.length)∧(True)) [(7214,tAI data)] (fun r=>[(7214,tAI r)]) (fn:=Try.f63) (nt:=9) Try.func63 rfl rfl (args:=[.arr 7214,.fn 64 [.ptr false [Zag false boxes]]]) rfl (Zax (.inr trivial) (Zax (.inl ⟨rfl,by simp [Zaj,Zaf,Zbz]⟩) Zcz)) (res:=fun r=> .tup []) ?_
  obtain ⟨data'_1,hx1_0,hc1⟩:=sYstb_ok data (data.length:Int) boxes (by first|rfl|omega) om hcl
  refine x_r [(4,.lend [(7214,tAI data,tAI data'_1)] [] [(true,.any),(true,.any),(true,.any)] true (.tup []))] [] [7214] [] [some (tAI data'_1)] [Zap Try.prog 76 [.arr 7214,I (data.length:Int),.fn 64 [.ptr false [Zag false boxes]]] (Zac [(7214,tAI data)]) true (.tup []) (Zac [(7214,tAI data'_1)])∧(((tAI data:Ob)=tAI data∨Zdt Zdh true (tAI data) (tAI data))∧Zal false (tAI data))∧True] ⟨⟨hc1,⟨.inl rfl,fun _ _=>Zro false _⟩,trivial⟩,trivial⟩ ?_
  refine Zii data'_1 (show (data'_1=Zce (cY boxes) data data.length)∧(True) from ⟨(by first|assumption|omega),trivial⟩) (⟨.inl rfl,trivial⟩) (.tup []) (by kernel_rfl) (.inl rfl) (fun _=>rfl) (fun _=>(by simp [Zaj,Zaf]))
 obtain ⟨data',⟨hh0,_⟩,hc⟩:=hh
 exact ⟨data',hh0,hc⟩
theorem Zvs (data:List Int) (boxes:List Box) (hl:data.length≤12∨data.length=60∧Zmm (cY boxes) data) (hcl:∀x∈data,0≤x∧x<(boxes.length:Int)):∃(data':List Int),(data'=Zce (cY boxes) data data.length)∧Zap Try.prog 63 [.arr 7214,.fn 64 [.ptr false [Zag false boxes]]] (Zac [(7214,tAI data)]) true (.tup []) (Zac [(7214,tAI data')]):=by
 rcases hl with hl|⟨hl,hs⟩
 ·exact Zyn data boxes om hcl
 ·obtain ⟨d,h1,h2⟩:=Zvr data boxes hl hs hcl
  exact ⟨d,by rw [h1,Zpt hs],h2⟩
theorem Zmg (data:List Int) (a:Int) (b:Int) (sw:Int) (boxes:List Box) (hb:0≤a∧a<b∧b<(data.length:Int)) (hl:data.length≤1000) (hsd:Zmm (cL boxes) data) (hcl:∀x∈data,0≤x∧x<(boxes.length:Int)):Con Try.prog 102 [slI false data,I a,I b,.ptr false [I sw],.fn 80 [.ptr false [Zag false boxes]]] true (.tup [I a,I b]):=by
 refine Zcn (fn:=Try.f102) (nt:=32) Try.func102 rfl rfl rfl rfl (by simp [Zaf,Zaj,Zbz,Zje]) fun B hB=> ?_
 refine Zbk (x:=slI false data) 0 rfl (fun len_data=> ?_)
 simp [Zco,Zfb,cI,fI,slI] at len_data
 refine aQ [] [0,1,2,3,4] [] [] hB trivial (Zae ?_)
 refine aQ [(9,.call [(true,.any),(true,.any),(true,.any)] true (I (cL boxes (at_ data b.toNat) (at_ data a.toNat)))),(10,.dec false)] [1,2,3,22] [] [(0:Int)≤b∧b<(data.length:Int),(0:Int)≤a∧a<(data.length:Int),_∧True,¬ ((cL boxes (at_ data b.toNat) (at_ data a.toNat))<0)] hB ⟨⟨om,om⟩,⟨om,om⟩,⟨(Zek (at_ data b.toNat) (at_ data a.toNat) boxes (by first|omega|exact hcl _ (Zbf om)) (by first|omega|exact hcl _ (Zbf om))),trivial⟩,(Zmf hsd om om),trivial⟩ (Zbc (Zam (Zab ?_)))
 refine aR [] [10,11] [] [I a,I b] [] [] hB trivial (Zav ?_)
 refine Zat hB (.tup [I a,I b]) (by kernel_rfl) (.inl rfl) rfl (fun _=>(by simp [Zaj,Zaf]))
theorem Zmh (data:List Int) (a:Int) (b:Int) (c:Int) (sw:Int) (boxes:List Box) (hb:0≤a∧a<b∧b<c∧c<(data.length:Int)) (hl:data.length≤1000) (hsd:Zmm (cL boxes) data) (hcl:∀x∈data,0≤x∧x<(boxes.length:Int)):Con Try.prog 100 [slI false data,I a,I b,I c,.ptr false [I sw],.fn 80 [.ptr false [Zag false boxes]]] true (I b):=by
 refine Zcn (fn:=Try.f100) (nt:=41) Try.func100 rfl rfl rfl rfl (by simp [Zaf,Zaj,Zbz,Zje]) fun B hB=> ?_
 refine Zbk (x:=slI false data) 0 rfl (fun len_data=> ?_)
 simp [Zco,Zfb,cI,fI,slI] at len_data
 refine aQ [] [0,1,2,3,4,5] [] [] hB trivial ?_
 refine aQ [(5,.call [(true,.any),(true,.any),(true,.any),(true,.any),(true,.any)] true (.tup [I a,I b]))] [0,1,2,3,4,5] [] [_∧True] hB ⟨⟨(Zmg data a b sw boxes om om hsd hcl),trivial⟩,trivial⟩ ?_
 refine aQ [(5,.call [(true,.any),(true,.any),(true,.any),(true,.any),(true,.any)] true (.tup [I b,I c]))] [0,1,2,4,5] [] [_∧True] hB ⟨⟨(Zmg data b c sw boxes om om hsd hcl),trivial⟩,trivial⟩ ?_
 refine aR [(5,.call [(true,.any),(true,.any),(true,.any),(true,.any),(true,.any)] true (.tup [I a,I b]))] [2] [] [I b] [] [_∧True] hB ⟨⟨(Zmg data a b sw boxes om om hsd hcl),trivial⟩,trivial⟩ ?_
 refine aR [] [12] [] [I b] [] [] hB trivial (Zav ?_)
 refine Zat hB (I b) (by kernel_rfl) (.inl rfl) rfl (fun _=>trivial)
theorem Zmi (data:List Int) (a:Int) (sw:Int) (boxes:List Box) (hb:1≤a∧a+1<(data.length:Int)) (hl:data.length≤1000) (hsd:Zmm (cL boxes) data) (hcl:∀x∈data,0≤x∧x<(boxes.length:Int)):Con Try.prog 99 [slI false data,I a,.ptr false [I sw],.fn 80 [.ptr false [Zag false boxes]]] true (I a):=by
 refine Zcn (fn:=Try.f99) (nt:=18) Try.func99 rfl rfl rfl rfl (by simp [Zaf,Zaj,Zbz,Zje]) fun B hB=> ?_
 refine Zbk (x:=slI false data) 0 rfl (fun len_data=> ?_)
 simp [Zco,Zfb,cI,fI,slI] at len_data
 refine aQ [] [0,1,2,3] [] [] hB trivial ?_
 refine aR [(8,.call [(true,.any),(true,.any),(true,.any),(true,.any),(true,.any),(true,.any)] true (I a))] [8] [] [I a] [] [inR .i64 (a-1),inR .i64 (a+1),_∧True] hB ⟨(Zah om om),(Zah om om),⟨(Zmh data (a-1) a (a+1) sw boxes om om hsd hcl),trivial⟩,trivial⟩ (Zav ?_)
 refine Zat hB (I a) (by kernel_rfl) (.inl rfl) rfl (fun _=>trivial)
theorem Zyo (data:List Int) (a:Int) (b:Int) (boxes:List Box) (hb:a=0∧b=60∧(data.length:Int)=60) (hl:data.length≤1000) (hsd:Zmm (cL boxes) data) (hcl:∀x∈data,0≤x∧x<(boxes.length:Int)):Con Try.prog 88 [slI false data,I a,I b,.fn 80 [.ptr false [Zag false boxes]]] true (.tup [I 30,I 1]):=by
  refine Zcn (fn:=Try.f88) (nt:=63) Try.func88 rfl rfl rfl rfl (by simp [Zaf,Zaj,Zbz,Zje]) fun B hB=> ?_
  refine Zbk (x:=slI false data) 0 rfl (fun len_data=> ?_)
  simp [Zco,Zfb,cI,fI,slI] at len_data
  refine aQ [] [0,1,2,3] [] [] hB trivial ?_
  refine aQ [] [0,1,3,10] [] [inR .i64 (b-a)] hB ⟨(Zah om om),trivial⟩ ?_
  refine aQ [(0,.new 11)] [0,1,3,10,11] [11] [] hB trivial ?_
  refine aR [(2,.nn)] [0,1,3,10,11,12] [11] [slI false data,I a,.fn 80 [.ptr false [Zag false boxes]],I (b-a),.ref 11 0,I (a+(((b-a)/4)*1))] [some (.box [I 0])] [(0:Int)≤(b-a)∧(0:Int)<4∧inR .i64 (b-a),inR .i64 (((b-a)/4)*1),inR .i64 (a+(((b-a)/4)*1))] hB ⟨⟨om,om,(Zah om om)⟩,(Zah om om),(Zah om om),trivial⟩ ?_
  refine aQ [(2,.nn)] [0,1,3,10,11,12,13] [11] [(0:Int)≤(b-a)∧(0:Int)<4∧inR .i64 (b-a),inR .i64 (((b-a)/4)*2),inR .i64 (a+(((b-a)/4)*2))] hB ⟨⟨om,om,(Zah om om)⟩,(Zah om om),(Zah om om),trivial⟩ ?_
  refine aQ [(2,.nn)] [0,3,10,11,12,13,14] [11] [(0:Int)≤(b-a)∧(0:Int)<4∧inR .i64 (b-a),inR .i64 (((b-a)/4)*3),inR .i64 (a+(((b-a)/4)*3))] hB ⟨⟨om,om,(Zah om om)⟩,(Zah om om),(Zah om om),trivial⟩ (Zae (Zae ?_))
  by_cases h1:8≤(b-a)
  ·refine Zbm [(1,.dec true)] [0,3,10,11,12,13,14,34] [11] [_] hB ⟨h1,trivial⟩ (Zab (Zbp (Zae (Zae ?_))))
   by_cases h2:50≤(b-a)
   ·refine Zdk [(1,.dec true)] [0,3,11,12,13,14,36] [11] [slI false data,.fn 80 [.ptr false [Zag false boxes]],.ref 11 0,I (a+(((b-a)/4)*1)),I (a+(((b-a)/4)*2)),I (a+(((b-a)/4)*3)),Bv true] [some (.box [I 0])] [_] hB ⟨h2,trivial⟩ (Zab (Zhg rfl ?_))
    refine aQ [(3,.call [(true,.any),(true,.any),(false,.ptr false [I 0]),(true,.any)] true (I (a+(((b-a)/4)*1))))] [0,3,11,12,13,14] [11] [_∧((false=true→true=true)∧AV.idsL [I 0]=[]∧(Zck (I 0)=Zck (I 0))∧([]:List AV)=[])∧True] hB ⟨⟨(Zmi data (a+(((b-a)/4)*1)) 0 boxes om om hsd hcl),⟨(fun h=>by cases h),rfl,⟨rfl,rfl⟩⟩,trivial⟩,trivial⟩ ?_
    refine aQ [(3,.call [(true,.any),(true,.any),(false,.ptr false [I 0]),(true,.any)] true (I (a+(((b-a)/4)*2))))] [0,3,11,12,13,14] [11] [_∧((false=true→true=true)∧AV.idsL [I 0]=[]∧(Zck (I 0)=Zck (I 0))∧([]:List AV)=[])∧True] hB ⟨⟨(Zmi data (a+(((b-a)/4)*2)) 0 boxes om om hsd hcl),⟨(fun h=>by cases h),rfl,⟨rfl,rfl⟩⟩,trivial⟩,trivial⟩ ?_
    refine Zbm [(3,.call [(true,.any),(true,.any),(false,.ptr false [I 0]),(true,.any)] true (I (a+(((b-a)/4)*3))))] [0,3,11,12,13,14] [11] [_∧((false=true→true=true)∧AV.idsL [I 0]=[]∧(Zck (I 0)=Zck (I 0))∧([]:List AV)=[])∧True] hB ⟨⟨(Zmi data (a+(((b-a)/4)*3)) 0 boxes om om hsd hcl),⟨(fun h=>by cases h),rfl,⟨rfl,rfl⟩⟩,trivial⟩,trivial⟩ (Zab ?_)
    refine Zdk [(5,.call [(true,.any),(true,.any),(true,.any),(true,.any),(false,.ptr false [I 0]),(true,.any)] true (I (a+(((b-a)/4)*2))))] [11,13] [11] [.ref 11 0,I (a+(((b-a)/4)*2))] [some (.box [I 0])] [_∧((false=true→true=true)∧AV.idsL [I 0]=[]∧(Zck (I 0)=Zck (I 0))∧([]:List AV)=[])∧True] hB ⟨⟨(Zmh data (a+(((b-a)/4)*1)) (a+(((b-a)/4)*2)) (a+(((b-a)/4)*3)) 0 boxes om om hsd hcl),⟨(fun h=>by cases h),rfl,⟨rfl,rfl⟩⟩,trivial⟩,trivial⟩ (Zab ?_)
    refine aQ [] [13,55] [] [] hB trivial (Zao ?_)
    refine aQ [(0,.dec true)] [13,55,57] [] [(0:Int)=0] hB ⟨(by decide),trivial⟩ (Zbp ?_)
    refine aR [] [8,9] [] [I (a+(((b-a)/4)*2)),I 1] [] [] hB trivial (Zav (Zar ?_))
    refine Zat hB (.tup [I (a+(((b-a)/4)*2)),I 1]) (by kernel_rfl) (.inl (by first|rfl|(congr 2;omega)|(simp;omega))) rfl (fun _=>(by simp [Zaj,Zaf]))
   refine Zbm [(1,.dec false)] [0,3,11,12,13,14,36] [11] [_] hB ⟨h2,trivial⟩ (Zab (Zbc (Zam (Zab ?_))))
   refine Zbm [(5,.call [(true,.any),(true,.any),(true,.any),(true,.any),(false,.ptr false [I 0]),(true,.any)] true (I (a+(((b-a)/4)*2))))] [11,13] [11] [_∧((false=true→true=true)∧AV.idsL [I 0]=[]∧(Zck (I 0)=Zck (I 0))∧([]:List AV)=[])∧True] hB ⟨⟨(Zmh data (a+(((b-a)/4)*1)) (a+(((b-a)/4)*2)) (a+(((b-a)/4)*3)) 0 boxes om om hsd hcl),⟨(fun h=>by cases h),rfl,⟨rfl,rfl⟩⟩,trivial⟩,trivial⟩ (Zab ?_)
   refine aQ [] [13,55] [] [] hB trivial (Zao ?_)
   refine aR [(0,.dec true)] [13,55,57] [] [I (a+(((b-a)/4)*2)),I 0,Bv true] [] [(0:Int)=0] hB ⟨(by decide),trivial⟩ (Zhg rfl ?_)
   refine aR [] [8,9] [] [I (a+(((b-a)/4)*2)),I 1] [] [] hB trivial (Zav (Zar ?_))
   refine Zat hB (.tup [I (a+(((b-a)/4)*2)),I 1]) (by kernel_rfl) (.inl (by first|rfl|(congr 2;omega)|(simp;omega))) rfl (fun _=>(by simp [Zaj,Zaf]))
  refine Zbm [(1,.dec false)] [0,3,10,11,12,13,14,34] [11] [_] hB ⟨h1,trivial⟩ (Zab (Zbc (Zam (Zab ?_))))
  refine aQ [] [13,55] [] [] hB trivial (Zao ?_)
  refine aQ [(0,.dec true)] [13,55,57] [] [(0:Int)=0] hB ⟨(by decide),trivial⟩ (Zbp ?_)
  refine aR [] [8,9] [] [I (a+(((b-a)/4)*2)),I 1] [] [] hB trivial (Zav (Zar ?_))
  refine Zat hB (.tup [I (a+(((b-a)/4)*2)),I 1]) (by kernel_rfl) (.inl (by first|rfl|(congr 2;omega)|(simp;omega))) rfl (fun _=>(by simp [Zaj,Zaf]))
theorem Zyp (data:List Int) (a:Int) (b:Int) (boxes:List Box) (hb:0≤a∧a<b∧b≤(data.length:Int)) (hl:data.length≤1000) (hsd:Zmm (cL boxes) data) (hcl:∀x∈data,0≤x∧x<(boxes.length:Int)):Con Try.prog 90 [slI false data,I a,I b,.fn 80 [.ptr false [Zag false boxes]]] true (Bv true):=by
  refine Zcn (fn:=Try.f90) (nt:=141) Try.func90 rfl rfl rfl rfl (by simp [Zaf,Zaj,Zbz,Zje]) fun B hB=> ?_
  refine Zbk (x:=slI false data) 0 rfl (fun len_data=> ?_)
  simp [Zco,Zfb,cI,fI,slI] at len_data
  refine aQ [] [0,1,2,3] [] [] hB trivial ?_
  refine aQ [] [0,1,2,3,9] [] [inR .i64 (a+1)] hB ⟨(Zah om om),trivial⟩ (Zae ?_)
  refine aR [] [0,1,2,3,9,10] [] [slI false data,I a,I b,.fn 80 [.ptr false [Zag false boxes]],I (a+1),I 0] [] [] hB trivial (Zao ?_)
  refine Zbq (fun gn gσ=>∃(i:Int) (j:Int),gn=(0:Nat)∧(j=0∧i=a+1)∧gσ=mkS [(0,slI false data),(1,I a),(2,I b),(3,.fn 80 [.ptr false [Zag false boxes]]),(9,I i),(10,I j)] []) ((0:Nat)) ⟨(a+1),0,rfl,om,rfl⟩ (fun gn gσ hI=> ?_)
  obtain ⟨i,j,rfl,hj0,rfl⟩:=hI
  refine Zae ?_
  refine aR [(1,.dec true)] [0,1,2,3,9,10,16] [] [slI false data,I a,I b,.fn 80 [.ptr false [Zag false boxes]],I i,I j,Bv true] [] [j<5] hB ⟨om,trivial⟩ (Zhg rfl (Zam (Zab (Zae (Zao (Zae (Zao ?_)))))))
  refine Zih hB [] (T:=[(0,slI false data),(1,I a),(2,I b),(3,.fn 80 [.ptr false [Zag false boxes]]),(9,I i),(10,I j)]) (O:=[]) rfl (⟨.inl rfl,.inl rfl,.inl rfl,.inl rfl,.inl rfl,.inl rfl,trivial⟩) (trivial) ?_
  refine Zbq (fun gn gσ=>∃(i':Int),gn=(b-i').toNat∧(a+1≤i'∧i'≤b)∧gσ=mkS [(0,slI false data),(1,I a),(2,I b),(3,.fn 80 [.ptr false [Zag false boxes]]),(9,I i'),(10,I j)] []) ((b-i).toNat) ⟨i,rfl,om,rfl⟩ (fun gn gσ hI=> ?_)
  obtain ⟨i',rfl,hj1,rfl⟩:=hI
  refine Zae (Zae ?_)
  by_cases h1:i'<b
  ·refine Zbm [(2,.dec true),(14,.call [(true,.any),(true,.any),(true,.any)] true (I (cL boxes (at_ data i'.toNat) (at_ data ((i'-1).toNat))))),(15,.dec false)] [0,1,2,3,9,10,36] [] [_,(0:Int)≤i'∧i'<(data.length:Int),inR .i64 (i'-1),(0:Int)≤(i'-1)∧(i'-1)<(data.length:Int),_∧True,¬ ((cL boxes (at_ data i'.toNat) (at_ data ((i'-1).toNat)))<0)] hB ⟨h1,⟨om,om⟩,(Zah om om),⟨om,om⟩,⟨(Zek (at_ data i'.toNat) (at_ data ((i'-1).toNat)) boxes (by first|omega|exact hcl _ (Zbf om)) (by first|omega|exact hcl _ (Zbf om))),trivial⟩,(Zmf hsd om om),trivial⟩ (Zab (Zbp (Zam (Zab (Zao ?_)))))
   refine Zdk [] [0,1,2,3,9,10] [] [slI false data,I a,I b,.fn 80 [.ptr false [Zag false boxes]],I (i'+1),I j] [] [inR .i64 (i'+1)] hB ⟨(Zah om om),trivial⟩ (Zay 3 ?_)
   exact Zaz _ om ⟨(i'+1),rfl,om,rfl⟩
  refine Zbm [(2,.dec false)] [0,1,2,3,9,10,36] [] [_] hB ⟨h1,trivial⟩ (Zab (Zbc (Zbr (Zai (Zai (Zaq (Zab (Zae ?_))))))))
  refine aQ [(2,.dec true)] [0,1,2,3,9,10,41] [] [i'=b] hB ⟨om,trivial⟩ (Zbp ?_)
  refine aR [] [8] [] [Bv true] [] [] hB trivial (Zav ?_)
  refine Zak (Zar (Zak (Zak (Zar (Zak ?_)))))
  refine Zat hB (Bv true) (by kernel_rfl) (.inl rfl) rfl (fun _=>trivial)
theorem Zyq (data:List Int) (a:Int) (b:Int) (limit:Int) (boxes:List Box) (hb:a=0∧b=60∧(data.length:Int)=60∧1≤limit) (hl:data.length≤1000) (hsd:Zmm (cL boxes) data) (hcl:∀x∈data,0≤x∧x<(boxes.length:Int)):Con Try.prog 78 [slI false data,I a,I b,I limit,.fn 80 [.ptr false [Zag false boxes]]] true (.tup []):=by
  refine Zcn (fn:=Try.f78) (nt:=148) Try.func78 rfl rfl rfl rfl (by simp [Zaf,Zaj,Zbz,Zje]) fun B hB=> ?_
  refine Zbk (x:=slI false data) 0 rfl (fun len_data=> ?_)
  simp [Zco,Zfb,cI,fI,slI] at len_data
  refine aQ [] [0,1,2,3,4,10] [] [] hB trivial ?_
  refine aR [] [0,1,2,3,4,10,11] [] [slI false data,I a,I b,I limit,.fn 80 [.ptr false [Zag false boxes]],Bv true,Bv true] [] [] hB trivial (Zao ?_)
  refine Zbq (fun gn gσ=>∃(a':Int) (b':Int) (limit':Int) (wasBalanced:Bool) (wasPartitioned:Bool),gn=(0:Nat)∧(a'=0∧b'=60∧1≤limit')∧(wasBalanced=true)∧(wasPartitioned=true)∧gσ=mkS [(0,slI false data),(1,I a'),(2,I b'),(3,I limit'),(4,.fn 80 [.ptr false [Zag false boxes]]),(10,Bv wasBalanced),(11,Bv wasPartitioned)] []) ((0:Nat)) ⟨a,b,limit,true,true,rfl,om,(by rfl),(by rfl),rfl⟩ (fun gn gσ hI=> ?_)
  obtain ⟨a',b',limit',wasBalanced,wasPartitioned,rfl,hab,hwb,hwp,rfl⟩:=hI
  refine Zao ?_
  refine aQ [] [0,1,2,3,4,10,11,12] [] [inR .i64 (b'-a')] hB ⟨(Zah om om),trivial⟩ (Zae ?_)
  refine aQ [(1,.dec false)] [0,1,2,3,4,10,11,12,25] [] [¬ ((b'-a')≤12)] hB ⟨om,trivial⟩ (Zbc (Zam (Zab (Zae ?_))))
  refine aQ [(1,.dec false)] [0,1,2,3,4,10,11,12,32] [] [¬ (limit'=0)] hB ⟨om,trivial⟩ (Zbc (Zam (Zab (Zae (Zae ?_)))))
  obtain rfl:wasBalanced=true:=hwb
  refine Zdk [] [0,1,2,3,4,10,11,12,39] [] [slI false data,I a',I b',I limit',.fn 80 [.ptr false [Zag false boxes]],Bv true,Bv wasPartitioned,I (b'-a'),Bv false] [] [] hB trivial (Zab (Zdc rfl (Zam (Zab ?_))))
  refine aQ [(4,.call [(true,.any),(true,.any),(true,.any),(true,.any)] true (.tup [I 30,I 1]))] [0,1,2,3,4,10,11,12,13,14] [] [_∧True] hB ⟨⟨(Zyo data a' b' boxes om om hsd hcl),trivial⟩,trivial⟩ (Zae ?_)
  refine aQ [(1,.dec false)] [0,1,2,3,4,10,11,12,13,14,56] [] [¬ ((1:Int)=2)] hB ⟨(by decide),trivial⟩ (Zbc (Zam (Zab (Zae (Zae ?_)))))
  rcases Bool.eq_false_or_eq_true wasPartitioned with h1|h1
  ·subst h1
   refine Zbm [(6,.dec true)] [0,1,2,3,4,10,11,12,13,75] [] [(1:Int)=1] hB ⟨(by decide),trivial⟩ (Zab (Zbp ?_))
   refine aR [(4,.call [(true,.any),(true,.any),(true,.any),(true,.any)] true (Bv true))] [0,1,2,3,4,10,11,12,13,80] [] [slI false data,I a',I b',I limit',.fn 80 [.ptr false [Zag false boxes]],Bv true,Bv true,I (b'-a'),I 30,Bv true] [] [_∧True] hB ⟨⟨(Zyp data a' b' boxes om om hsd hcl),trivial⟩,trivial⟩ (Zhg rfl (Zav ?_))
   refine Zak (Zar (Zak (Zar ?_)))
   refine Zat hB (.tup []) (by kernel_rfl) (.inl rfl) rfl (fun _=>(by simp [Zaj,Zaf]))
  exact Bool.noConfusion (hwp.symm.trans (by assumption))
theorem Zvt (data:List Int) (boxes:List Box) (hl:data.length=60) (hsd:Zmm (cL boxes) data) (hcl:∀x∈data,0≤x∧x<(boxes.length:Int)):∃(data':List Int),(data'=data)∧Zap Try.prog 66 [.arr 7214,.fn 80 [.ptr false [Zag false boxes]]] (Zac [(7214,tAI data)]) true (.tup []) (Zac [(7214,tAI data')]):=by
 have hh:∃r:(List Int),((r=data)∧(True))∧Zap Try.prog 66 [.arr 7214,.fn 80 [.ptr false [Zag false boxes]]] (Zac [(7214,tAI data)]) true (.tup []) (Zac [(7214,tAI r)]):=by
  refine Zda (Φ:=fun r:(List Int)=>(r=data)∧(True)) [(7214,tAI data)] (fun r=>[(7214,tAI r)]) (fn:=Try.f66) (nt:=14) Try.func66 rfl rfl (args:=[.arr 7214,.fn 80 [.ptr false [Zag false boxes]]]) rfl (Zax (.inr trivial) (Zax (.inl ⟨rfl,by simp [Zaj,Zaf,Zbz]⟩) Zcz)) (res:=fun r=> .tup []) ?_
  refine xQ [] [0,1,4] [7214] [] trivial ?_
  refine x_r [(4,.call [(true,.any)] true (I ((Lib.bitLen (data.length:Int).toNat:Nat):Int))),(6,.call [(false,slI false data),(true,.any),(true,.any),(true,.any),(true,.any)] true (.tup []))] [] [7214] [] [some (tAI data)] [inR .u64 (data.length:Int),_∧True,_∧((false=true→true=true)∧1=1∧data.length=data.length∧∀i_,i_<data.length→(fI data) i_=(fI data) i_∨(AV.idsL ((fI data) i_)=[]∧leL (fun _=>none) false ((fI data) i_) ((fI data) i_)))∧True] ⟨(Zeo om om),⟨(Zyr (data.length:Int) om),trivial⟩,⟨(Zyq data 0 (data.length:Int) ((Lib.bitLen (data.length:Int).toNat:Nat):Int) boxes (by have e_:Lib.bitLen ((data.length:Int).toNat)=6:=(by rw [show (data.length:Int).toNat=60 from by omega];rfl);omega) om hsd hcl),⟨(fun h=>by cases h),rfl,rfl,fun i _=> .inl rfl⟩,trivial⟩,trivial⟩ ?_
  refine Zii data (show (data=data)∧(True) from ⟨(by first|rfl|assumption),trivial⟩) (⟨.inl rfl,trivial⟩) (.tup []) (by kernel_rfl) (.inl rfl) (fun _=>rfl) (fun _=>(by simp [Zaj,Zaf]))
 obtain ⟨data',⟨hh0,_⟩,hc⟩:=hh
 exact ⟨data',hh0,hc⟩
theorem sLins_ok (data:List Int) (a:Int) (b:Int) (boxes:List Box) (hb:a=0∧b=(data.length:Int)) (hl:data.length<20) (hcl:∀x∈data,0≤x∧x<(boxes.length:Int)):∃(data':List Int),(data'=Zce (cL boxes) data data.length)∧Zap Try.prog 84 [.arr 7214,I a,I b,.fn 80 [.ptr false [Zag false boxes]]] (Zac [(7214,tAI data)]) true (.tup []) (Zac [(7214,tAI data')]):=by
  have hh:∃r:(List Int),((r=Zce (cL boxes) data data.length)∧(True))∧Zap Try.prog 84 [.arr 7214,I a,I b,.fn 80 [.ptr false [Zag false boxes]]] (Zac [(7214,tAI data)]) true (.tup []) (Zac [(7214,tAI r)]):=by
    refine Zda (Φ:=fun r:(List Int)=>(r=Zce (cL boxes) data data.length)∧(True)) [(7214,tAI data)] (fun r=>[(7214,tAI r)]) (fn:=Try.f84) (nt:=53) Try.func84 rfl rfl (args:=[.arr 7214,I a,I b,.fn 80 [.ptr false [Zag false boxes]]]) rfl (Zax (.inr trivial) (Zax (.inl ⟨rfl,trivial⟩) (Zax (.inl ⟨rfl,trivial⟩) (Zax (.inl ⟨rfl,by simp [Zaj,Zaf,Zbz]⟩) Zcz)))) (res:=fun r=> .tup []) ?_
    refine xR [] [0,1,2,3,8] [7214] [.arr 7214,I a,I b,.fn 80 [.ptr false [Zag false boxes]],I (a+1)] [some (tAI data)] [inR .i64 (a+1)] ⟨(Zah om om),trivial⟩ (Zby ?_)
    refine Zfn (X:=Int×(List Int)) (fun x=>mkS [(0,.arr 7214),(1,I a),(2,I b),(3,.fn 80 [.ptr false [Zag false boxes]]),(8,I x.1)] [(7214,tAI x.2)]) (fun x=>(1≤x.1∧(x.1≤(data.length:Int)∨x.1=1))∧(x.2=Zce (cL boxes) data (min x.1.toNat data.length)++data.drop x.1.toNat)∧True) (fun x=>((data.length:Int)-x.1).toNat) ((a+1),data) rfl (show (1≤(a+1)∧((a+1)≤(data.length:Int)∨(a+1)=1))∧(data=Zce (cL boxes) data (min (a+1).toNat data.length)++data.drop (a+1).toNat)∧True from ⟨om,(by first|exact Zjl _ _|(rw [show (a+1).toNat=1 from by omega];exact Zjl _ _)),trivial⟩) (fun x hI=> ?_)
    obtain ⟨i,ys⟩:=x
    obtain ⟨hi0,hys,_⟩:(1≤i∧(i≤(data.length:Int)∨i=1))∧(ys=Zce (cL boxes) data (min i.toNat data.length)++data.drop i.toNat)∧True:=hI
    show XW _ _ _ _ (mkS [(0,.arr 7214),(1,I a),(2,I b),(3,.fn 80 [.ptr false [Zag false boxes]]),(8,I i)] [(7214,tAI ys)]) _ _
    refine Zau (Zau ?_)
    by_cases h1:i<b
    ·have hi:i.toNat<data.length:=by omega
     have hmi:min i.toNat data.length=i.toNat:=by omega
     rw [hmi,iso_in hi] at hys
     have hpl:=Zer (cL boxes) data i.toNat
     have hyl:ys.length=data.length:=by rw [hys,List.length_append,Zgz om,List.length_drop,hpl];omega
     refine x_q [(2,.dec true)] [0,1,2,3,8,14] [7214] [_] ⟨h1,trivial⟩ (Zad (Zib (Zca (Zad (Zau (Zby ?_))))))
     refine xR [] [0,1,2,3,8,9] [7214] [.arr 7214,I a,I b,.fn 80 [.ptr false [Zag false boxes]],I i,I i] [some (tAI ys)] [] trivial (Zby ?_)
     refine Zfn (X:=Int×(List Int)) (fun x=>mkS [(0,.arr 7214),(1,I a),(2,I b),(3,.fn 80 [.ptr false [Zag false boxes]]),(8,I i),(9,I x.1)] [(7214,tAI x.2)]) (fun x=>(0≤x.1∧x.1≤i)∧(x.2=Zhz (Zce (cL boxes) data i.toNat) (at_ data i.toNat) x.1.toNat++data.drop (i.toNat+1))∧(∀k:Nat,x.1≤(k:Int)→(k:Int)<i→(cL boxes) (at_ data i.toNat) (at_ (Zce (cL boxes) data i.toNat) k)<0)∧True) (fun x=>x.1.toNat) (i,ys) rfl (show (0≤i∧i≤i)∧(ys=Zhz (Zce (cL boxes) data i.toNat) (at_ data i.toNat) i.toNat++data.drop (i.toNat+1))∧(∀k:Nat,i≤(k:Int)→(k:Int)<i→(cL boxes) (at_ data i.toNat) (at_ (Zce (cL boxes) data i.toNat) k)<0)∧True from ⟨om,(by first|exact hys|(rw [hys];done)),(by intro k h1 h2;omega),trivial⟩) (fun x hI=> ?_)
     obtain ⟨j,ys'⟩:=x
     obtain ⟨hj0,hin,hgt,_⟩:(0≤j∧j≤i)∧(ys'=Zhz (Zce (cL boxes) data i.toNat) (at_ data i.toNat) j.toNat++data.drop (i.toNat+1))∧(∀k:Nat,j≤(k:Int)→(k:Int)<i→(cL boxes) (at_ data i.toNat) (at_ (Zce (cL boxes) data i.toNat) k)<0)∧True:=hI
     show XW _ _ _ _ (mkS [(0,.arr 7214),(1,I a),(2,I b),(3,.fn 80 [.ptr false [Zag false boxes]]),(8,I i),(9,I j)] [(7214,tAI ys')]) _ _
     refine Zau (Zau ?_)
     by_cases h2:a<j
     ·have hyl':ys'.length=data.length:=by rw [hin,List.length_append,Zgz om,List.length_drop,hpl];omega
      have e1:at_ ys' j.toNat=(at_ data i.toNat):=by rw [hin];exact Zym om
      have e2:at_ ys' (j-1).toNat=at_ (Zce (cL boxes) data i.toNat) (j.toNat-1):=by rw [hin,Zjm om om];congr 1;omega
      have hce1:=hcl _ (Zbf hi)
      rw [←e1] at hce1
      have hce2:=Zlx (c:=(cL boxes)) hcl i.toNat om _ (Zbf (xs:=(Zce (cL boxes) data i.toNat)) (i:=j.toNat-1) om)
      rw [←e2] at hce2
      by_cases h3:(cL boxes (at_ ys' j.toNat) (at_ ys' ((j-1).toNat)))<0
      ·have hq:=h3
       rw [e1,e2] at hq
       have hst:(ys'.set j.toNat (at_ ys' (j-1).toNat)).set (j-1).toNat (at_ ys' j.toNat)=Zhz (Zce (cL boxes) data i.toNat) (at_ data i.toNat) (j-1).toNat++data.drop (i.toNat+1):=by have q:=Zup (p:=(Zce (cL boxes) data i.toNat)) (x:=(at_ data i.toNat)) (r:=data.drop (i.toNat+1)) (j:=(j-1).toNat) om;rw [show (j-1).toNat+1=j.toNat from by omega] at q;rw [e1,e2,hin,←q,show j.toNat-1=(j-1).toNat from by omega]
       have hgn:∀k:Nat,j-1≤(k:Int)→(k:Int)<i→(cL boxes) (at_ data i.toNat) (at_ (Zce (cL boxes) data i.toNat) k)<0:=fun k h1 h2=>by by_cases e:(k:Int)=j-1;(rw [show k=j.toNat-1 from by omega];exact hq);exact hgt k om h2
       refine x_q [(2,.dec true),(14,.call [(true,.any),(true,.any),(true,.any)] true (I (cL boxes (at_ ys' j.toNat) (at_ ys' ((j-1).toNat))))),(15,.dec true)] [0,1,2,3,8,9,34] [7214] [_,(0:Int)≤j∧j<(ys'.length:Int),j.toNat<ys'.length,inR .i64 (j-1),(0:Int)≤(j-1)∧(j-1)<(ys'.length:Int),(j-1).toNat<ys'.length,_∧True,_] ⟨h2,⟨om,om⟩,om,(Zah om om),⟨om,om⟩,om,⟨(Zek (at_ ys' j.toNat) (at_ ys' ((j-1).toNat)) boxes (by first|omega|exact hcl _ (Zbf om)) (by first|omega|exact hcl _ (Zbf om))),trivial⟩,h3,trivial⟩ (Zad (Zib (Zca (Zad (Zau (Zby ?_))))))
       refine x_q [] [0,1,2,3,8,9] [7214] [inR .i64 (j-1),inR .i64 (j-1),(0:Int)≤(j-1)∧(j-1)<(ys'.length:Int),(j-1).toNat<ys'.length,(0:Int)≤j∧j<(ys'.length:Int),j.toNat<ys'.length,(0:Int)≤j∧j<(ys'.length:Int),j.toNat<ys'.length,(0:Int)≤(j-1)∧(j-1)<(ys'.length:Int),(j-1).toNat<ys'.length] ⟨(Zah om om),(Zah om om),⟨om,om⟩,om,⟨om,om⟩,om,⟨om,om⟩,om,⟨om,om⟩,om,trivial⟩ (Zbt 3 (Zad ?_))
       refine x_r [] [0,1,2,3,8,9] [7214] [.arr 7214,I a,I b,.fn 80 [.ptr false [Zag false boxes]],I i,I (j-1)] [some (.arr 1 ys'.length (fun q=>bif Nat.beq q ((j-1).toNat) then spl ((fun q=>bif Nat.beq q j.toNat then [I (at_ ys' ((j-1).toNat))] else (fI ys') q) ((j-1).toNat)) 0 [I (at_ ys' j.toNat)] else (fun q=>bif Nat.beq q j.toNat then [I (at_ ys' ((j-1).toNat))] else (fI ys') q) q))] [inR .i64 (j-1)] ⟨(Zah om om),trivial⟩ ?_
       refine Zdl [] (T:=[(0,.arr 7214),(1,I a),(2,I b),(3,.fn 80 [.ptr false [Zag false boxes]]),(8,I i),(9,I (j-1))]) (O:=[(7214,tAI ((ys'.set j.toNat (at_ ys' ((j-1).toNat))).set ((j-1).toNat) (at_ ys' j.toNat)))]) rfl (⟨.inl rfl,.inl rfl,.inl rfl,.inl rfl,.inl rfl,.inl rfl,trivial⟩) (⟨.inr ⟨rfl,(by first|rfl|(simp;done)|(simp;omega)|omega),fun i_ hi_=> .inl (Zxv (enc:=cI) (fun i_ hi_=>(Zgn (enc:=cI) rfl i_ hi_)) ((by first|omega|(simp only [List.length_set];omega))) rfl i_ hi_)⟩,trivial⟩) (Zcs ((j-1),((ys'.set j.toNat (at_ ys' ((j-1).toNat))).set ((j-1).toNat) (at_ ys' j.toNat))) rfl (show (0≤(j-1)∧(j-1)≤i)∧(((ys'.set j.toNat (at_ ys' ((j-1).toNat))).set ((j-1).toNat) (at_ ys' j.toNat))=Zhz (Zce (cL boxes) data i.toNat) (at_ data i.toNat) (j-1).toNat++data.drop (i.toNat+1))∧(∀k:Nat,(j-1)≤(k:Int)→(k:Int)<i→(cL boxes) (at_ data i.toNat) (at_ (Zce (cL boxes) data i.toNat) k)<0)∧True from ⟨om,(by exact hst),(by exact hgn),trivial⟩) (by first|(show ((j-1).toNat:Nat)<j.toNat;omega)|(dsimp only;omega)))
      have hq:=h3
      rw [e1,e2] at hq
      have hio:=Zps (c:=(cL boxes)) (xs:=data) (i:=i.toNat) (j:=j.toNat) om (fun k h1 h2=>hgt k om om) (Or.inr hq)
      rw [hio] at hin
      refine x_r [(2,.dec true),(14,.call [(true,.any),(true,.any),(true,.any)] true (I (cL boxes (at_ ys' j.toNat) (at_ ys' ((j-1).toNat))))),(15,.dec false)] [0,1,2,3,8,9,34] [7214] [.arr 7214,I a,I b,.fn 80 [.ptr false [Zag false boxes]],I i,I j,Bv false] [some (tAI ys')] [_,(0:Int)≤j∧j<(ys'.length:Int),j.toNat<ys'.length,inR .i64 (j-1),(0:Int)≤(j-1)∧(j-1)<(ys'.length:Int),(j-1).toNat<ys'.length,_∧True,_] ⟨h2,⟨om,om⟩,om,(Zah om om),⟨om,om⟩,om,⟨(Zek (at_ ys' j.toNat) (at_ ys' ((j-1).toNat)) boxes (by first|omega|exact hcl _ (Zbf om)) (by first|omega|exact hcl _ (Zbf om))),trivial⟩,h3,trivial⟩ (Zad (Zde rfl (Zdy (Zbd ?_))))
      refine Zbj ?_
      refine Zbe (Zbt 1 (Zad ?_))
      refine x_r [] [0,1,2,3,8] [7214] [.arr 7214,I a,I b,.fn 80 [.ptr false [Zag false boxes]],I (i+1)] [some (tAI ys')] [inR .i64 (i+1)] ⟨(Zah om om),trivial⟩ ?_
      exact Zcs ((i+1),ys') rfl (show (1≤(i+1)∧((i+1)≤(data.length:Int)∨(i+1)=1))∧(ys'=Zce (cL boxes) data (min (i+1).toNat data.length)++data.drop (i+1).toNat)∧True from ⟨om,(by rw [hin,show (i+1).toNat=i.toNat+1 from by omega,show min (i.toNat+1) data.length=i.toNat+1 from by omega]),trivial⟩) (by first|(show (((data.length:Int)-(i+1)).toNat:Nat)<((data.length:Int)-i).toNat;omega)|(dsimp only;omega))
     have hio:=Zps (c:=(cL boxes)) (xs:=data) (i:=i.toNat) (j:=j.toNat) om (fun k h1 h2=>hgt k om om) (Or.inl om)
     rw [hio] at hin
     refine x_r [(2,.dec false)] [0,1,2,3,8,9,34] [7214] [.arr 7214,I a,I b,.fn 80 [.ptr false [Zag false boxes]],I i,I j,Bv false] [some (tAI ys')] [_] ⟨h2,trivial⟩ (Zad (Zde rfl (Zdy (Zbd ?_))))
     refine Zbj ?_
     refine Zbe (Zbt 1 (Zad ?_))
     refine x_r [] [0,1,2,3,8] [7214] [.arr 7214,I a,I b,.fn 80 [.ptr false [Zag false boxes]],I (i+1)] [some (tAI ys')] [inR .i64 (i+1)] ⟨(Zah om om),trivial⟩ ?_
     exact Zcs ((i+1),ys') rfl (show (1≤(i+1)∧((i+1)≤(data.length:Int)∨(i+1)=1))∧(ys'=Zce (cL boxes) data (min (i+1).toNat data.length)++data.drop (i+1).toNat)∧True from ⟨om,(by rw [hin,show (i+1).toNat=i.toNat+1 from by omega,show min (i.toNat+1) data.length=i.toNat+1 from by omega]),trivial⟩) (by first|(show (((data.length:Int)-(i+1)).toNat:Nat)<((data.length:Int)-i).toNat;omega)|(dsimp only;omega))
    have hyf:ys=Zce (cL boxes) data data.length:=by rw [hys,show min i.toNat data.length=data.length from by omega,List.drop_eq_nil_of_le om,List.append_nil]
    refine x_r [(2,.dec false)] [0,1,2,3,8,14] [7214] [.arr 7214,I a,I b,.fn 80 [.ptr false [Zag false boxes]],I i,Bv false] [some (tAI ys)] [_] ⟨h1,trivial⟩ (Zad (Zde rfl (Zdy (Zbd ?_))))
    refine Zbj ?_
    refine Zbe ?_
    refine Zii ys (show (ys=Zce (cL boxes) data data.length)∧(True) from ⟨(by exact hyf),trivial⟩) (⟨.inl rfl,trivial⟩) (.tup []) (by kernel_rfl) (.inl rfl) (fun _=>rfl) (fun _=>(by simp [Zaj,Zaf]))
  obtain ⟨data',⟨hh0,_⟩,hc⟩:=hh
  exact ⟨data',hh0,hc⟩
theorem sLpdq_ok (data:List Int) (a:Int) (b:Int) (limit:Int) (boxes:List Box) (hb:a=0∧b=(data.length:Int)) (hl:data.length≤12) (hcl:∀x∈data,0≤x∧x<(boxes.length:Int)):∃(data':List Int),(data'=Zce (cL boxes) data data.length)∧Zap Try.prog 78 [.arr 7214,I a,I b,I limit,.fn 80 [.ptr false [Zag false boxes]]] (Zac [(7214,tAI data)]) true (.tup []) (Zac [(7214,tAI data')]):=by
 have hh:∃r:(List Int),((r=Zce (cL boxes) data data.length)∧(True))∧Zap Try.prog 78 [.arr 7214,I a,I b,I limit,.fn 80 [.ptr false [Zag false boxes]]] (Zac [(7214,tAI data)]) true (.tup []) (Zac [(7214,tAI r)]):=by
  refine Zda (Φ:=fun r:(List Int)=>(r=Zce (cL boxes) data data.length)∧(True)) [(7214,tAI data)] (fun r=>[(7214,tAI r)]) (fn:=Try.f78) (nt:=148) Try.func78 rfl rfl (args:=[.arr 7214,I a,I b,I limit,.fn 80 [.ptr false [Zag false boxes]]]) rfl (Zax (.inr trivial) (Zax (.inl ⟨rfl,trivial⟩) (Zax (.inl ⟨rfl,trivial⟩) (Zax (.inl ⟨rfl,trivial⟩) (Zax (.inl ⟨rfl,by simp [Zaj,Zaf,Zbz]⟩) Zcz))))) (res:=fun r=> .tup []) ?_
  refine xQ [] [0,1,2,3,4,10] [7214] [] trivial ?_
  refine xR [] [0,1,2,3,4,10,11] [7214] [.arr 7214,I a,I b,I limit,.fn 80 [.ptr false [Zag false boxes]],Bv true,Bv true] [some (tAI data)] [] trivial (Zby ?_)
  refine Zfn (X:=Int×Int×Int×Bool×Bool) (fun x=>mkS [(0,.arr 7214),(1,I x.1),(2,I x.2.1),(3,I x.2.2.1),(4,.fn 80 [.ptr false [Zag false boxes]]),(10,Bv x.2.2.2.1),(11,Bv x.2.2.2.2)] [(7214,tAI data)]) (fun x=>(x.1=0∧x.2.1=(data.length:Int))∧True) (fun x=>(0:Nat)) (a,b,limit,true,true) rfl (show (a=0∧b=(data.length:Int))∧True from ⟨om,trivial⟩) (fun x hI=> ?_)
  obtain ⟨a',b',limit',wasBalanced,wasPartitioned⟩:=x
  obtain ⟨hab,_⟩:(a'=0∧b'=(data.length:Int))∧True:=hI
  show XW _ _ _ _ (mkS [(0,.arr 7214),(1,I a'),(2,I b'),(3,I limit'),(4,.fn 80 [.ptr false [Zag false boxes]]),(10,Bv wasBalanced),(11,Bv wasPartitioned)] [(7214,tAI data)]) _ _
  refine Zby ?_
  refine xQ [] [0,1,2,3,4,10,11,12] [7214] [inR .i64 (b'-a')] ⟨(Zah om om),trivial⟩ (Zau ?_)
  refine xQ [(1,.dec true)] [0,1,2,3,4,10,11,12,25] [7214] [(b'-a')≤12] ⟨om,trivial⟩ (Zib (Zau ?_))
  obtain ⟨data'_1,hx1_0,hc1⟩:=sLins_ok data a' b' boxes (by first|omega|(subst_vars;omega)) (by first|omega|(subst_vars;omega)) (by first|exact hcl|(rw [hyd];exact hcl))
  refine x_r [(4,.lend [(7214,tAI data,tAI data'_1)] [] [(true,.any),(true,.any),(true,.any),(true,.any)] true (.tup []))] [] [7214] [] [some (tAI data'_1)] [Zap Try.prog 84 [.arr 7214,I a',I b',.fn 80 [.ptr false [Zag false boxes]]] (Zac [(7214,tAI data)]) true (.tup []) (Zac [(7214,tAI data'_1)])∧(((tAI data:Ob)=tAI data∨Zdt Zdh true (tAI data) (tAI data))∧Zal false (tAI data))∧True] ⟨⟨hc1,⟨.inl rfl,fun _ _=>Zro false _⟩,trivial⟩,trivial⟩ (Zad (Zcl ?_))
  refine Zcy (Zkg (Zrx (Zkg ?_)))
  refine Zbs data'_1 (show (data'_1=Zce (cL boxes) data data.length)∧(True) from ⟨(by assumption),trivial⟩) (⟨.inl rfl,trivial⟩) (.tup []) (by kernel_rfl) (.inl rfl) (fun _=>rfl) (fun _=>(by simp [Zaj,Zaf]))
 obtain ⟨data',⟨hh0,_⟩,hc⟩:=hh
 exact ⟨data',hh0,hc⟩
theorem Zys (data:List Int) (boxes:List Box) (hl:data.length≤12) (hcl:∀x∈data,0≤x∧x<(boxes.length:Int)):∃(data':List Int),(data'=Zce (cL boxes) data data.length)∧Zap Try.prog 66 [.arr 7214,.fn 80 [.ptr false [Zag false boxes]]] (Zac [(7214,tAI data)]) true (.tup []) (Zac [(7214,tAI data')]):=by
 have hh:∃r:(List Int),((r=Zce (cL boxes) data data.length)∧(True))∧Zap Try.prog 66 [.arr 7214,.fn 80 [.ptr false [Zag false boxes]]] (Zac [(7214,tAI data)]) true (.tup []) (Zac [(7214,tAI r)]):=by
  refine Zda (Φ:=fun r:(List Int)=>(r=Zce (cL boxes) data data.length)∧(True)) [(7214,tAI data)] (fun r=>[(7214,tAI r)]) (fn:=Try.f66) (nt:=14) Try.func66 rfl rfl (args:=[.arr 7214,.fn 80 [.ptr false [Zag false boxes]]]) rfl (Zax (.inr trivial) (Zax (.inl ⟨rfl,by simp [Zaj,Zaf,Zbz]⟩) Zcz)) (res:=fun r=> .tup []) ?_
  refine xQ [] [0,1,4] [7214] [] trivial ?_
  obtain ⟨data'_1,hx1_0,hc1⟩:=sLpdq_ok data 0 (data.length:Int) ((Lib.bitLen (data.length:Int).toNat:Nat):Int) boxes (by first|omega|(subst_vars;omega)) (by first|omega|(subst_vars;omega)) hcl
  refine x_r [(4,.call [(true,.any)] true (I ((Lib.bitLen (data.length:Int).toNat:Nat):Int))),(6,.lend [(7214,tAI data,tAI data'_1)] [] [(true,.any),(true,.any),(true,.any),(true,.any),(true,.any)] true (.tup []))] [] [7214] [] [some (tAI data'_1)] [inR .u64 (data.length:Int),_∧True,Zap Try.prog 78 [.arr 7214,I 0,I (data.length:Int),I ((Lib.bitLen (data.length:Int).toNat:Nat):Int),.fn 80 [.ptr false [Zag false boxes]]] (Zac [(7214,tAI data)]) true (.tup []) (Zac [(7214,tAI data'_1)])∧(((tAI data:Ob)=tAI data∨Zdt Zdh true (tAI data) (tAI data))∧Zal false (tAI data))∧True] ⟨(Zeo om om),⟨(Zyr (data.length:Int) om),trivial⟩,⟨hc1,⟨.inl rfl,fun _ _=>Zro false _⟩,trivial⟩,trivial⟩ ?_
  refine Zii data'_1 (show (data'_1=Zce (cL boxes) data data.length)∧(True) from ⟨(by first|assumption|omega),trivial⟩) (⟨.inl rfl,trivial⟩) (.tup []) (by kernel_rfl) (.inl rfl) (fun _=>rfl) (fun _=>(by simp [Zaj,Zaf]))
 obtain ⟨data',⟨hh0,_⟩,hc⟩:=hh
 exact ⟨data',hh0,hc⟩
theorem Zvu (data:List Int) (boxes:List Box) (hl:data.length≤12∨data.length=60∧Zmm (cL boxes) data) (hcl:∀x∈data,0≤x∧x<(boxes.length:Int)):∃(data':List Int),(data'=Zce (cL boxes) data data.length)∧Zap Try.prog 66 [.arr 7214,.fn 80 [.ptr false [Zag false boxes]]] (Zac [(7214,tAI data)]) true (.tup []) (Zac [(7214,tAI data')]):=by
 rcases hl with hl|⟨hl,hs⟩
 ·exact Zys data boxes om hcl
 ·obtain ⟨d,h1,h2⟩:=Zvt data boxes hl hs hcl
  exact ⟨d,by rw [h1,Zpt hs],h2⟩
theorem Zna (boxes:List Box) (gap:Int) (hp:Zbx boxes=true) (hg:0≤gap∧gap≤4095) (hs:smB boxes):∃(v:List Line),(v=Zkp boxes gap)∧Con Try.prog 34 [Zag false boxes,I gap] true (Zan true v):=by
  have hpn:=Znh hp
  have hh:∃r:(List Line),((r=Zkp boxes gap)∧(True))∧Zap Try.prog 34 [Zag false boxes,I gap] (Zac []) true (Zan true r) (Zac []):=by
    refine Zda (Φ:=fun r:(List Line)=>(r=Zkp boxes gap)∧(True)) [] (fun r=>[]) (fn:=Try.f34) (nt:=102) Try.func34 rfl rfl (args:=[Zag false boxes,I gap]) rfl (Zax (.inl ⟨rfl,Zbz false _⟩) (Zax (.inl ⟨rfl,trivial⟩) Zcz)) (res:=fun r=>Zan true r) ?_
    refine xQ [(0,.new 2)] [1,2] [2] [] trivial ?_
    refine xQ [] [1,2,5] [2] [] trivial (Zau ?_)
    refine xR [] [1,2,5,16,17] [2] [I gap,.ref 2 0,Zni,I (boxes.length:Int),I 0] [some (.box [Zag false boxes])] [] trivial (Zby ?_)
    refine x_nil 5 705 1 (fun _=>[]) (by kernel_rfl) ?_
    refine Zfm [] (T:=[(1,I gap),(2,.ref 2 0),(5,.arr 705),(16,I (boxes.length:Int)),(17,I 0)]) (O:=[(2,.box [Zag false boxes]),(705,tAI ([]:List Int))]) rfl (⟨.inl rfl,.inl rfl,.inl rfl,.inl rfl,.inl rfl,trivial⟩) (⟨.inl rfl,.inr ⟨rfl,(by first|rfl|(simp;done)|(simp;omega)|omega),fun i_ hi_=>absurd hi_ (Nat.not_lt_zero _)⟩,trivial⟩) ?_
    refine Zfn (X:=(List Int)×Int) (fun x=>mkS [(1,I gap),(2,.ref 2 0),(5,.arr 705),(16,I (boxes.length:Int)),(17,I x.2)] [(2,.box [Zag false boxes]),(705,tAI x.1)]) (fun x=>(0≤x.2∧x.2≤(boxes.length:Int))∧(x.1=ixL x.2.toNat)∧((x.1.length:Int)=x.2)∧True) (fun x=>((boxes.length:Int)-x.2).toNat) (([]:List Int),0) rfl (show (0≤(0:Int)∧(0:Int)≤(boxes.length:Int))∧(([]:List Int)=ixL (0:Int).toNat)∧((([]:List Int).length:Int)=(0:Int))∧True from ⟨om,(by rfl),(by rfl),trivial⟩) (fun x hI=> ?_)
    obtain ⟨od,t17⟩:=x
    obtain ⟨hi0,hol,hoz,_⟩:(0≤t17∧t17≤(boxes.length:Int))∧(od=ixL t17.toNat)∧((od.length:Int)=t17)∧True:=hI
    show XW _ _ _ _ (mkS [(1,I gap),(2,.ref 2 0),(5,.arr 705),(16,I (boxes.length:Int)),(17,I t17)] [(2,.box [Zag false boxes]),(705,tAI od)]) _ _
    refine Zau ?_
    by_cases h1:t17<(boxes.length:Int)
    ·have hi:t17.toNat<boxes.length:=by omega
     have hnx:(t17+1).toNat=t17.toNat+1:=by omega
     have hix:(t17.toNat:Int)=t17:=by omega
     refine x_q [(0,.dec true)] [1,2,5,16,17,18] [2,705] [_] ⟨h1,trivial⟩ (Zad (Zau (Zib (Zca (Zad (Zau (Zby ?_)))))))
     refine xQ [] [1,2,5,6,16,17] [2,705] [] trivial ?_
     refine x_q [(2,.new 22),(3,.new 23)] [1,2,5,16,17] [2,23] [(od.length+1)*8≤140737488355328] ⟨om,trivial⟩ (Zbt 1 (Zad ?_))
     refine x_r [] [1,2,5,16,17] [2,23] [I gap,.ref 2 0,.arr 23,I (boxes.length:Int),I (t17+1)] [some (.box [Zag false boxes]),some (.arr 1 (od.length+1) (Zgd od.length (fI od) (Zfu [I t17] 1)))] [inR .i64 (t17+1)] ⟨(Zah om om),trivial⟩ ?_
     refine Zdl [(705,23)] (T:=[(1,I gap),(2,.ref 2 0),(5,.arr 705),(16,I (boxes.length:Int)),(17,I (t17+1))]) (O:=[(2,.box [Zag false boxes]),(705,tAI (od++[t17]))]) rfl (⟨.inl rfl,.inl rfl,.inl rfl,.inl rfl,.inl rfl,trivial⟩) (⟨.inl rfl,.inr ⟨rfl,(by first|rfl|(simp;done)|(simp;omega)|omega),fun i_ hi_=> .inl (Zeg (enc:=cI) (xs:=od) rfl i_ hi_)⟩,trivial⟩) (Zcs ((od++[t17]),(t17+1)) rfl (show (0≤(t17+1)∧(t17+1)≤(boxes.length:Int))∧((od++[t17])=ixL (t17+1).toNat)∧(((od++[t17]).length:Int)=(t17+1))∧True from ⟨om,(by rw [hnx,Zuq,←hol,hix]),(by rw [List.length_append];simp;omega),trivial⟩) (by first|(show (((boxes.length:Int)-(t17+1)).toNat:Nat)<((boxes.length:Int)-t17).toNat;omega)|(dsimp only;omega)))
    have hie1:t17.toNat=boxes.length:=by omega
    refine x_r [(0,.dec false)] [1,2,5,16,17,18] [2,705] [I gap,.ref 2 0,.arr 705,I (boxes.length:Int),I t17,Bv false] [some (.box [Zag false boxes]),some (tAI od)] [_] ⟨h1,trivial⟩ (Zad (Zau (Zde rfl (Zdy (Zbd ?_)))))
    refine Zbj ?_
    refine Zbe (Zad (Zau ?_))
    refine Zfm [(7214,705)] (T:=[(1,I gap),(2,.ref 2 0),(5,.arr 7214),(16,I (boxes.length:Int)),(17,I t17),(18,Bv false)]) (O:=[(2,.box [Zag false boxes]),(7214,tAI od)]) rfl (⟨.inl rfl,.inl rfl,.inl rfl,.inl rfl,.inl rfl,.inl rfl,trivial⟩) (⟨.inl rfl,.inl rfl,trivial⟩) ?_
    obtain ⟨data'_1,hx1_0,hc1⟩:=Zvs od boxes (by first|(rw [hol,hie1];exact sm_ixY hs)|exact hsm) (by first|(rw [hol,hie1];exact fun x hx=>Zly.1 hx)|exact hbb.2.1)
    have hod:data'_1=Zff boxes:=by rw [hx1_0,hol,hie1,Zea];rfl
    have hdl:data'_1.length=boxes.length:=by rw [hod,Zdd]
    refine x_q [(2,.lendT [(7214,tAI od,tAI data'_1)] [] [(true,.any),(false,.fn 64 [.ptr false [Zag false boxes]])] true (.tup []))] [1,2,5] [2,7214] [Zap Try.prog 63 [.arr 7214,.fn 64 [.ptr false [Zag false boxes]]] (Zac [(7214,tAI od)]) true (.tup []) (Zac [(7214,tAI data'_1)])∧Zno [(7214,tAI data'_1)]∧Zaj true (.tup [])∧(64=64∧((false=true→true=true)∧AV.idsL [Zag false boxes]=[]∧((false=true→false=true)∧4=4∧boxes.length=boxes.length∧∀i_,i_<boxes.length→(Zdi boxes) i_=(Zdi boxes) i_∨(AV.idsL ((Zdi boxes) i_)=[]∧leL (fun _=>none) false ((Zdi boxes) i_) ((Zdi boxes) i_)))∧([]:List AV)=[])∧([]:List AV)=[])∧(((tAI od:Ob)=tAI od∨Zdt Zdh true (tAI od) (tAI od))∧Zal false (tAI od))∧True] ⟨⟨hc1,⟨(fun _ _=>Zro true _),trivial⟩,(by simp [Zaj,Zaf]),⟨rfl,⟨⟨(fun h=>by cases h),rfl,⟨⟨(fun h=>by cases h),rfl,rfl,fun i _=> .inl rfl⟩,rfl⟩⟩,rfl⟩⟩,⟨.inl rfl,fun _ _=>Zro false _⟩,trivial⟩,trivial⟩ (Zad ?_)
    refine xQ [] [1,2,5,7] [2,7214] [] trivial (Zau ?_)
    refine xR [] [1,2,7,28,29,30] [2,7214] [I gap,.ref 2 0,Zni,.arr 7214,I (data'_1.length:Int),I 0] [some (.box [Zag false boxes]),some (tAI data'_1)] [] trivial (Zby ?_)
    refine x_nil 7 707 3 (fun _=>[]) (by kernel_rfl) ?_
    refine x_fam 9213 1 (fun _=>0) (fun _ _=>[]) (by kernel_rfl) ?_
    refine Zfm [] (T:=[(1,I gap),(2,.ref 2 0),(7,.arr 707),(28,.arr 7214),(29,I (data'_1.length:Int)),(30,I 0)]) (O:=[(2,.box [Zag false boxes]),(707,Zdu 9213 ([]:List Line)),(7214,tAI data'_1),(9213,Zcx ([]:List Line))]) rfl (⟨.inl rfl,.inl rfl,.inl rfl,.inl rfl,.inl rfl,.inl rfl,trivial⟩) (⟨.inl rfl,.inr ⟨rfl,rfl,fun i hi=>absurd hi (Nat.not_lt_zero _)⟩,.inl rfl,.inr ⟨rfl,rfl,fun p hp=>absurd hp (Nat.not_lt_zero _)⟩,trivial⟩) ?_
    refine Zfn (X:=(List Line)×Int) (fun x=>mkS [(1,I gap),(2,.ref 2 0),(7,.arr 707),(28,.arr 7214),(29,I (data'_1.length:Int)),(30,I x.2)] [(2,.box [Zag false boxes]),(707,Zdu 9213 x.1),(7214,tAI data'_1),(9213,Zcx x.1)]) (fun x=>(0≤x.2∧x.2≤(boxes.length:Int))∧(x.1=Zfk boxes gap (Zff boxes) x.2.toNat)∧True) (fun x=>((boxes.length:Int)-x.2).toNat) (([]:List Line),0) rfl (show (0≤(0:Int)∧(0:Int)≤(boxes.length:Int))∧(([]:List Line)=Zfk boxes gap (Zff boxes) (0:Int).toNat)∧True from ⟨om,(by rfl),trivial⟩) (fun x hI=> ?_)
    obtain ⟨ls,t30⟩:=x
    obtain ⟨hi1,hls,_⟩:(0≤t30∧t30≤(boxes.length:Int))∧(ls=Zfk boxes gap (Zff boxes) t30.toNat)∧True:=hI
    show XW _ _ _ _ (mkS [(1,I gap),(2,.ref 2 0),(7,.arr 707),(28,.arr 7214),(29,I (data'_1.length:Int)),(30,I t30)] [(2,.box [Zag false boxes]),(707,Zdu 9213 ls),(7214,tAI data'_1),(9213,Zcx ls)]) _ _
    refine Zau ?_
    by_cases h2:t30<(data'_1.length:Int)
    ·have hi:t30.toNat<boxes.length:=by omega
     have hnx:(t30+1).toNat=t30.toNat+1:=by omega
     have hdi:at_ data'_1 t30.toNat=at_ (Zff boxes) t30.toNat:=by rw [hod]
     have hik:0≤at_ data'_1 t30.toNat∧at_ data'_1 t30.toNat<(boxes.length:Int):=by rw [hod];exact Zyb hi
     have hbk:=Zgo hp (j:=(at_ data'_1 t30.toNat).toNat) om
     have hlb:∀l∈ls,lnB boxes t30.toNat l:=by rw [hls];exact Zlz hp (fun x hx=>Zes.1 hx) _ (by rw [Zdd];omega)
     have hll:ls.length≤t30.toNat:=by rw [hls];exact Zma _ _ _ _
     refine x_q [(0,.dec true)] [1,2,7,28,29,30,31] [2,707,7214,9213] [_] ⟨h2,trivial⟩ (Zad (Zau (Zib (Zca (Zad (Zau (Zby ?_)))))))
     refine xQ [] [1,2,7,9,28,29,30] [2,707,7214,9213] [(0:Int)≤t30∧t30<(data'_1.length:Int),t30.toNat<data'_1.length] ⟨⟨om,om⟩,om,trivial⟩ ?_
     refine xR [(4,.new 10)] [1,2,7,9,10,28,29,30] [2,10,707,7214,9213] [I gap,.ref 2 0,.arr 707,I (at_ data'_1 t30.toNat),.ref 10 0,.arr 7214,I (data'_1.length:Int),I t30] [some (.box [Zag false boxes]),some (Zgu (at_ boxes ((at_ data'_1 t30.toNat).toNat))),some (Zdu 9213 ls),some (tAI data'_1),some (Zcx ls)] [(0:Int)≤(at_ data'_1 t30.toNat)∧(at_ data'_1 t30.toNat)<(boxes.length:Int)] ⟨⟨om,om⟩,trivial⟩ ?_
     refine x_cut (X:=(List Line)) (fun x=>mkS [(1,I gap),(2,.ref 2 0),(7,.arr 707),(9,I (at_ data'_1 t30.toNat)),(10,.ref 10 0),(28,.arr 7214),(29,I (data'_1.length:Int)),(30,I t30)] [(2,.box [Zag false boxes]),(10,Zgu (at_ boxes ((at_ data'_1 t30.toNat).toNat))),(707,Zdu 9213 x),(7214,tAI data'_1),(9213,Zcx x)]) (fun x=>(x=Znb boxes gap ls (at_ data'_1 t30.toNat))∧True) ?_ (fun x hI=> ?_)
     ·refine xQ [] [1,2,7,9,10,11,28,29,30] [2,10,707,7214,9213] [inR .i64 ((ls.length:Int)-1)] ⟨(Zah om om),trivial⟩ (Zau ?_)
      by_cases h3:((ls.length:Int)-1)<0
      ·have hpy:=Zyt (bs:=boxes) (gap:=gap) (ls:=ls) (k:=at_ data'_1 t30.toNat) (.inl om)
       refine x_q [(1,.dec true)] [1,2,7,9,10,28,29,30,54] [2,10,707,7214,9213] [_] ⟨h3,trivial⟩ (Zad (Zib ?_))
       refine x_r [(6,.new 61),(7,.new 62)] [1,2,7,9,10,28,29,30] [2,10,62,7214,9213] [I gap,.ref 2 0,.arr 62,I (at_ data'_1 t30.toNat),.ref 10 0,.arr 7214,I (data'_1.length:Int),I t30] [some (.box [Zag false boxes]),some (Zgu (at_ boxes ((at_ data'_1 t30.toNat).toNat))),some (.oar [9213] 3 (ls.length+1) (Zgd ls.length (Zeq 9213 ls) (Zfu [I ((at_ boxes ((at_ data'_1 t30.toNat).toNat)).Y1),I ((at_ boxes ((at_ data'_1 t30.toNat).toNat)).Y2),Zni] 3))),some (tAI data'_1),some (Zcx ls)] [(ls.length+1)*40≤140737488355328] ⟨om,trivial⟩ ?_
       refine Zxx 62 8601 1 ls.length [I ((at_ boxes ((at_ data'_1 t30.toNat).toNat)).Y1),I ((at_ boxes ((at_ data'_1 t30.toNat).toNat)).Y2)] (Zgd ls.length (Zeq 9213 ls) (Zfu [I ((at_ boxes ((at_ data'_1 t30.toNat).toNat)).Y1),I ((at_ boxes ((at_ data'_1 t30.toNat).toNat)).Y2),.arr 8601] 3)) (fun _=>[]) rfl (om) (u:=Zni) (by rw [Zey (Nat.le_refl _),Nat.sub_self];rfl) rfl (by rw [Zey (Nat.le_refl _),Nat.sub_self];rfl) (fun q h1_ h2_=>by rw [Zfp om,Zfp om]) rfl (by kernel_rfl) ?_
       refine Zwf 8601 9213 rfl rfl rfl ?_
       refine Zdl [(707,62)] (T:=[(1,I gap),(2,.ref 2 0),(7,.arr 707),(9,I (at_ data'_1 t30.toNat)),(10,.ref 10 0),(28,.arr 7214),(29,I (data'_1.length:Int)),(30,I t30)]) (O:=[(2,.box [Zag false boxes]),(10,Zgu (at_ boxes ((at_ data'_1 t30.toNat).toNat))),(707,Zdu 9213 (ls++[(Line.mk ((at_ boxes ((at_ data'_1 t30.toNat).toNat)).Y1) ((at_ boxes ((at_ data'_1 t30.toNat).toNat)).Y2) ([]:List Int))])),(7214,tAI data'_1),(9213,Zcx (ls++[(Line.mk ((at_ boxes ((at_ data'_1 t30.toNat).toNat)).Y1) ((at_ boxes ((at_ data'_1 t30.toNat).toNat)).Y2) ([]:List Int))]))]) rfl (⟨.inl rfl,.inl rfl,.inl rfl,.inl rfl,.inl rfl,.inl rfl,.inl rfl,.inl rfl,trivial⟩) (⟨.inl rfl,.inl rfl,.inr ⟨rfl,rfl,(by simp),fun i hi=> .inl (Zur rfl rfl rfl i hi)⟩,.inl rfl,.inr (Zus (Line.mk ((at_ boxes ((at_ data'_1 t30.toNat).toNat)).Y1) ((at_ boxes ((at_ data'_1 t30.toNat).toNat)).Y2) ([]:List Int)) (by first|rfl|(simp;done)) (fun i_ hi_=>absurd hi_ (Nat.not_lt_zero _))),trivial⟩) (Zwe (ls++[(Line.mk ((at_ boxes ((at_ data'_1 t30.toNat).toNat)).Y1) ((at_ boxes ((at_ data'_1 t30.toNat).toNat)).Y2) ([]:List Int))]) rfl (show ((ls++[(Line.mk ((at_ boxes ((at_ data'_1 t30.toNat).toNat)).Y1) ((at_ boxes ((at_ data'_1 t30.toNat).toNat)).Y2) ([]:List Int))])=Znb boxes gap ls (at_ data'_1 t30.toNat))∧True from ⟨(by first|exact hpy.symm|exact hpn.symm),trivial⟩))
      have hlq:=hlb _ (Zbf (i:=((ls.length:Int)-1).toNat) om)
      have hlq1:=hlq.1
      have hle:Zdf ls=at_ ls ((ls.length:Int)-1).toNat:=by unfold Zdf;congr 1;omega
      by_cases h4:(((at_ ls (((ls.length:Int)-1).toNat)).Bottom)+gap)<((at_ boxes ((at_ data'_1 t30.toNat).toNat)).Y1)
      ·have hpy:=Zyt (bs:=boxes) (gap:=gap) (ls:=ls) (k:=at_ data'_1 t30.toNat) (.inr (by rw [hle];exact h4))
       refine x_q [(1,.dec false),(12,.dec true)] [1,2,7,9,10,28,29,30,54] [2,10,707,7214,9213] [_,(0:Int)≤((ls.length:Int)-1)∧((ls.length:Int)-1)<(ls.length:Int),((ls.length:Int)-1).toNat<ls.length,inR .i64 (((at_ ls (((ls.length:Int)-1).toNat)).Bottom)+gap),_] ⟨h3,⟨om,om⟩,om,(Zah om om),h4,trivial⟩ (Zad (Zib ?_))
       refine x_r [(6,.new 61),(7,.new 62)] [1,2,7,9,10,28,29,30] [2,10,62,7214,9213] [I gap,.ref 2 0,.arr 62,I (at_ data'_1 t30.toNat),.ref 10 0,.arr 7214,I (data'_1.length:Int),I t30] [some (.box [Zag false boxes]),some (Zgu (at_ boxes ((at_ data'_1 t30.toNat).toNat))),some (.oar [9213] 3 (ls.length+1) (Zgd ls.length (Zeq 9213 ls) (Zfu [I ((at_ boxes ((at_ data'_1 t30.toNat).toNat)).Y1),I ((at_ boxes ((at_ data'_1 t30.toNat).toNat)).Y2),Zni] 3))),some (tAI data'_1),some (Zcx ls)] [(ls.length+1)*40≤140737488355328] ⟨om,trivial⟩ ?_
       refine Zxx 62 8602 1 ls.length [I ((at_ boxes ((at_ data'_1 t30.toNat).toNat)).Y1),I ((at_ boxes ((at_ data'_1 t30.toNat).toNat)).Y2)] (Zgd ls.length (Zeq 9213 ls) (Zfu [I ((at_ boxes ((at_ data'_1 t30.toNat).toNat)).Y1),I ((at_ boxes ((at_ data'_1 t30.toNat).toNat)).Y2),.arr 8602] 3)) (fun _=>[]) rfl (om) (u:=Zni) (by rw [Zey (Nat.le_refl _),Nat.sub_self];rfl) rfl (by rw [Zey (Nat.le_refl _),Nat.sub_self];rfl) (fun q h1_ h2_=>by rw [Zfp om,Zfp om]) rfl (by kernel_rfl) ?_
       refine Zwf 8602 9213 rfl rfl rfl ?_
       refine Zdl [(707,62)] (T:=[(1,I gap),(2,.ref 2 0),(7,.arr 707),(9,I (at_ data'_1 t30.toNat)),(10,.ref 10 0),(28,.arr 7214),(29,I (data'_1.length:Int)),(30,I t30)]) (O:=[(2,.box [Zag false boxes]),(10,Zgu (at_ boxes ((at_ data'_1 t30.toNat).toNat))),(707,Zdu 9213 (ls++[(Line.mk ((at_ boxes ((at_ data'_1 t30.toNat).toNat)).Y1) ((at_ boxes ((at_ data'_1 t30.toNat).toNat)).Y2) ([]:List Int))])),(7214,tAI data'_1),(9213,Zcx (ls++[(Line.mk ((at_ boxes ((at_ data'_1 t30.toNat).toNat)).Y1) ((at_ boxes ((at_ data'_1 t30.toNat).toNat)).Y2) ([]:List Int))]))]) rfl (⟨.inl rfl,.inl rfl,.inl rfl,.inl rfl,.inl rfl,.inl rfl,.inl rfl,.inl rfl,trivial⟩) (⟨.inl rfl,.inl rfl,.inr ⟨rfl,rfl,(by simp),fun i hi=> .inl (Zur rfl rfl rfl i hi)⟩,.inl rfl,.inr (Zus (Line.mk ((at_ boxes ((at_ data'_1 t30.toNat).toNat)).Y1) ((at_ boxes ((at_ data'_1 t30.toNat).toNat)).Y2) ([]:List Int)) (by first|rfl|(simp;done)) (fun i_ hi_=>absurd hi_ (Nat.not_lt_zero _))),trivial⟩) (Zwe (ls++[(Line.mk ((at_ boxes ((at_ data'_1 t30.toNat).toNat)).Y1) ((at_ boxes ((at_ data'_1 t30.toNat).toNat)).Y2) ([]:List Int))]) rfl (show ((ls++[(Line.mk ((at_ boxes ((at_ data'_1 t30.toNat).toNat)).Y1) ((at_ boxes ((at_ data'_1 t30.toNat).toNat)).Y2) ([]:List Int))])=Znb boxes gap ls (at_ data'_1 t30.toNat))∧True from ⟨(by first|exact hpy.symm|exact hpn.symm),trivial⟩))
      have hpn:=pre_n (bs:=boxes) (gap:=gap) (ls:=ls) (k:=at_ data'_1 t30.toNat) (fun q=>by rcases q with q|q;omega;(rw [hle] at q;exact h4 q))
      refine x_r [(1,.dec false),(12,.dec false)] [1,2,7,9,10,28,29,30,54] [2,10,707,7214,9213] [I gap,.ref 2 0,.arr 707,I (at_ data'_1 t30.toNat),.ref 10 0,.arr 7214,I (data'_1.length:Int),I t30,Bv false] [some (.box [Zag false boxes]),some (Zgu (at_ boxes ((at_ data'_1 t30.toNat).toNat))),some (Zdu 9213 ls),some (tAI data'_1),some (Zcx ls)] [_,(0:Int)≤((ls.length:Int)-1)∧((ls.length:Int)-1)<(ls.length:Int),((ls.length:Int)-1).toNat<ls.length,inR .i64 (((at_ ls (((ls.length:Int)-1).toNat)).Bottom)+gap),_] ⟨h3,⟨om,om⟩,om,(Zah om om),h4,trivial⟩ (Zad (Zde rfl (Zca ?_)))
      refine Zdl [] (T:=[(1,I gap),(2,.ref 2 0),(7,.arr 707),(9,I (at_ data'_1 t30.toNat)),(10,.ref 10 0),(28,.arr 7214),(29,I (data'_1.length:Int)),(30,I t30)]) (O:=[(2,.box [Zag false boxes]),(10,Zgu (at_ boxes ((at_ data'_1 t30.toNat).toNat))),(707,Zdu 9213 ls),(7214,tAI data'_1),(9213,Zcx ls)]) rfl (⟨.inl rfl,.inl rfl,.inl rfl,.inl rfl,.inl rfl,.inl rfl,.inl rfl,.inl rfl,trivial⟩) (⟨.inl rfl,.inl rfl,.inl rfl,.inl rfl,.inl rfl,trivial⟩) (Zwe ls rfl (show (ls=Znb boxes gap ls (at_ data'_1 t30.toNat))∧True from ⟨(by first|exact hpy.symm|exact hpn.symm),trivial⟩))
     obtain ⟨l2,hxx⟩:∃l2:List Line,l2=x:=⟨x,rfl⟩
     subst hxx
     obtain ⟨hl2,_⟩:(l2=Znb boxes gap ls (at_ data'_1 t30.toNat))∧True:=hI
     show XW _ _ _ _ (mkS [(1,I gap),(2,.ref 2 0),(7,.arr 707),(9,I (at_ data'_1 t30.toNat)),(10,.ref 10 0),(28,.arr 7214),(29,I (data'_1.length:Int)),(30,I t30)] [(2,.box [Zag false boxes]),(10,Zgu (at_ boxes ((at_ data'_1 t30.toNat).toNat))),(707,Zdu 9213 l2),(7214,tAI data'_1),(9213,Zcx l2)]) _ _
     have hpl:=Zpu boxes gap ls (at_ data'_1 t30.toNat)
     rw [←hl2] at hpl
     have hlb2:∀l∈l2,lnB boxes t30.toNat l:=by rw [hl2];exact pre_bd hp hik hlb
     have hadd:=Zpv boxes gap ls (at_ data'_1 t30.toNat)
     rw [←hl2] at hadd
     have hPe:l2.length-1=((l2.length:Int)-1).toNat:=by omega
     have hlq2:=hlb2 _ (Zbf (i:=((l2.length:Int)-1).toNat) om)
     have hlq3:=hlq2.2.2
     refine xQ [] [1,2,7,9,10,12,28,29,30] [2,10,707,7214,9213] [inR .i64 ((l2.length:Int)-1),(0:Int)≤((l2.length:Int)-1)∧((l2.length:Int)-1)<(l2.length:Int)] ⟨(Zah om om),⟨om,om⟩,trivial⟩ ?_
     refine xR [] [1,2,7,9,12,28,29,30] [2,707,7214,9213] [I gap,.ref 2 0,.arr 707,I (at_ data'_1 t30.toNat),.elt 707 3 (((l2.length:Int)-1).toNat) 0,.arr 7214,I (data'_1.length:Int),I t30] [some (.box [Zag false boxes]),some (.oar [9213] 3 l2.length (fun q=>bif Nat.beq q (((l2.length:Int)-1).toNat) then [I ((at_ l2 (((l2.length:Int)-1).toNat)).Top),I (max ((at_ l2 (((l2.length:Int)-1).toNat)).Bottom) ((at_ boxes ((at_ data'_1 t30.toNat).toNat)).Y2)),.row 9213 (((l2.length:Int)-1).toNat)] else (Zeq 9213 l2) q)),some (tAI data'_1),some (Zcx l2)] [((l2.length:Int)-1).toNat<l2.length,((l2.length:Int)-1).toNat<l2.length] ⟨om,om,trivial⟩ ?_
     refine Zfm [] (T:=[(1,I gap),(2,.ref 2 0),(7,.arr 707),(9,I (at_ data'_1 t30.toNat)),(12,.elt 707 3 (((l2.length:Int)-1).toNat) 0),(28,.arr 7214),(29,I (data'_1.length:Int)),(30,I t30)]) (O:=[(2,.box [Zag false boxes]),(707,Zdu 9213 (l2.set (((l2.length:Int)-1).toNat) (Line.mk ((at_ l2 (((l2.length:Int)-1).toNat)).Top) (max ((at_ l2 (((l2.length:Int)-1).toNat)).Bottom) ((at_ boxes ((at_ data'_1 t30.toNat).toNat)).Y2)) ((at_ l2 (((l2.length:Int)-1).toNat)).Items)))),(7214,tAI data'_1),(9213,Zcx (l2.set (((l2.length:Int)-1).toNat) (Line.mk ((at_ l2 (((l2.length:Int)-1).toNat)).Top) (max ((at_ l2 (((l2.length:Int)-1).toNat)).Bottom) ((at_ boxes ((at_ data'_1 t30.toNat).toNat)).Y2)) ((at_ l2 (((l2.length:Int)-1).toNat)).Items))))]) rfl (⟨.inl rfl,.inl rfl,.inl rfl,.inl rfl,.inl rfl,.inl rfl,.inl rfl,.inl rfl,trivial⟩) (⟨.inl rfl,.inr ⟨rfl,rfl,(by simp),fun i_ hi_=> .inl (oputLine _ _ i_ hi_)⟩,.inl rfl,.inr (Zyu (P:=((l2.length:Int)-1).toNat) (x':=(Line.mk ((at_ l2 (((l2.length:Int)-1).toNat)).Top) (max ((at_ l2 (((l2.length:Int)-1).toNat)).Bottom) ((at_ boxes ((at_ data'_1 t30.toNat).toNat)).Y2)) ((at_ l2 (((l2.length:Int)-1).toNat)).Items))) rfl),trivial⟩) ?_
     generalize hl4:(l2.set (((l2.length:Int)-1).toNat) (Line.mk ((at_ l2 (((l2.length:Int)-1).toNat)).Top) (max ((at_ l2 (((l2.length:Int)-1).toNat)).Bottom) ((at_ boxes ((at_ data'_1 t30.toNat).toNat)).Y2)) ((at_ l2 (((l2.length:Int)-1).toNat)).Items)))=l4
     have h4:at_ l4 ((l2.length:Int)-1).toNat=Line.mk (at_ l2 ((l2.length:Int)-1).toNat).Top (max (at_ l2 ((l2.length:Int)-1).toNat).Bottom (at_ boxes (at_ data'_1 t30.toNat).toNat).Y2) (at_ l2 ((l2.length:Int)-1).toNat).Items:=by rw [←hl4];exact Zgk om
     have h4n:(at_ l4 ((l2.length:Int)-1).toNat).Items.length≤60:=by rw [h4];show (at_ l2 ((l2.length:Int)-1).toNat).Items.length≤60;omega
     have h4l:l4.length=l2.length:=by rw [←hl4,List.length_set]
     refine Znu 707 8503 9213 (((l2.length:Int)-1).toNat) (Zsy l4) rfl rfl (om) (fun q _=>rfl) (fun _=>rfl) (by kernel_rfl) ?_
     refine Zfm [] (T:=[(1,I gap),(2,.ref 2 0),(7,.arr 707),(9,I (at_ data'_1 t30.toNat)),(12,.elt 707 3 (((l2.length:Int)-1).toNat) 0),(28,.arr 7214),(29,I (data'_1.length:Int)),(30,I t30)]) (O:=[(2,.box [Zag false boxes]),(707,.oar [8503,9213] 3 ((l4.set (((l2.length:Int)-1).toNat) (Line.withItems (at_ l4 (((l2.length:Int)-1).toNat)) ([]:List Int))).length) (fun q=>bif Nat.beq q (((l2.length:Int)-1).toNat) then [I ((at_ l4 (((l2.length:Int)-1).toNat)).Top),I ((at_ l4 (((l2.length:Int)-1).toNat)).Bottom),.arr 8503] else (Zeq 9213 (l4.set (((l2.length:Int)-1).toNat) (Line.withItems (at_ l4 (((l2.length:Int)-1).toNat)) ([]:List Int)))) q)),(7214,tAI data'_1),(8503,tAI ((at_ l4 (((l2.length:Int)-1).toNat)).Items)),(9213,Zcx (l4.set (((l2.length:Int)-1).toNat) (Line.withItems (at_ l4 (((l2.length:Int)-1).toNat)) ([]:List Int))))]) rfl (⟨.inl rfl,.inl rfl,.inl rfl,.inl rfl,.inl rfl,.inl rfl,.inl rfl,.inl rfl,trivial⟩) (⟨.inl rfl,.inr ⟨rfl,rfl,(by first|rfl|(simp;done)),fun i_ hi_=> .inl ((Zyv _ i_).trans (AV.renL_nil _).symm)⟩,.inl rfl,.inl rfl,.inr (Zjn (om) (by first|rfl|(simp;done)|(simp;omega)) (fun i_ h_=>absurd h_ (Nat.not_lt_zero _))),trivial⟩) ?_
     refine x_r [(4,.as (.arr 8503)),(6,.new 84),(7,.new 85)] [1,2,7,28,29,30] [2,85,707,7214,9213] [I gap,.ref 2 0,.arr 707,.arr 7214,I (data'_1.length:Int),I t30] [some (.box [Zag false boxes]),some (.arr 1 ((((at_ l4 (((l2.length:Int)-1).toNat)).Items).length)+1) (Zgd (((at_ l4 (((l2.length:Int)-1).toNat)).Items).length) (fI ((at_ l4 (((l2.length:Int)-1).toNat)).Items)) (Zfu [I (at_ data'_1 t30.toNat)] 1))),some (.oar [8503,9213,85] 3 ((l4.set (((l2.length:Int)-1).toNat) (Line.withItems (at_ l4 (((l2.length:Int)-1).toNat)) ([]:List Int))).length) (fun q=>bif Nat.beq q (((l2.length:Int)-1).toNat) then spl ((fun q=>bif Nat.beq q (((l2.length:Int)-1).toNat) then [I ((at_ l4 (((l2.length:Int)-1).toNat)).Top),I ((at_ l4 (((l2.length:Int)-1).toNat)).Bottom),.arr 8503] else (Zeq 9213 (l4.set (((l2.length:Int)-1).toNat) (Line.withItems (at_ l4 (((l2.length:Int)-1).toNat)) ([]:List Int)))) q) (((l2.length:Int)-1).toNat)) 2 [.arr 85] else (fun q=>bif Nat.beq q (((l2.length:Int)-1).toNat) then [I ((at_ l4 (((l2.length:Int)-1).toNat)).Top),I ((at_ l4 (((l2.length:Int)-1).toNat)).Bottom),.arr 8503] else (Zeq 9213 (l4.set (((l2.length:Int)-1).toNat) (Line.withItems (at_ l4 (((l2.length:Int)-1).toNat)) ([]:List Int)))) q) q)),some (tAI data'_1),some (Zcx (l4.set (((l2.length:Int)-1).toNat) (Line.withItems (at_ l4 (((l2.length:Int)-1).toNat)) ([]:List Int))))] [((l2.length:Int)-1).toNat<(l4.set (((l2.length:Int)-1).toNat) (Line.withItems (at_ l4 (((l2.length:Int)-1).toNat)) ([]:List Int))).length∧List.drop 2 ((fun q=>bif Nat.beq q (((l2.length:Int)-1).toNat) then [I ((at_ l4 (((l2.length:Int)-1).toNat)).Top),I ((at_ l4 (((l2.length:Int)-1).toNat)).Bottom),.arr 8503] else (Zeq 9213 (l4.set (((l2.length:Int)-1).toNat) (Line.withItems (at_ l4 (((l2.length:Int)-1).toNat)) ([]:List Int)))) q) (((l2.length:Int)-1).toNat))=[.arr 8503],((((at_ l4 (((l2.length:Int)-1).toNat)).Items).length)+1)*8≤140737488355328,((l2.length:Int)-1).toNat<(l4.set (((l2.length:Int)-1).toNat) (Line.withItems (at_ l4 (((l2.length:Int)-1).toNat)) ([]:List Int))).length] ⟨⟨(by first|omega|(simp only [List.length_set];omega)),(by simp only [Nat.beq_refl,cond_true];rfl)⟩,om,(by first|omega|(simp only [List.length_set];omega)),trivial⟩ (Zbt 3 (Zad ?_))
     refine Zrg 707 85 9213 (((l2.length:Int)-1).toNat) (fun q=>bif Nat.beq q (((l2.length:Int)-1).toNat) then [I ((at_ l4 (((l2.length:Int)-1).toNat)).Top),I ((at_ l4 (((l2.length:Int)-1).toNat)).Bottom)] else Zsy (l4.set (((l2.length:Int)-1).toNat) (Line.withItems (at_ l4 (((l2.length:Int)-1).toNat)) ([]:List Int))) q) rfl rfl rfl ((by first|omega|(simp only [List.length_set];omega))) (by first|exact Nat.le_refl _|(simp;done)|omega) (fun q _=>⟨fun e=>by subst e;simp only [Nat.beq_refl,cond_true];rfl,fun e=>by simp only [Znz e,cond_false];rfl⟩) (fun q=>by cases Nat.beq q (((l2.length:Int)-1).toNat)<;>rfl) (by kernel_rfl) ?_
     refine Zfm [] (T:=[(1,I gap),(2,.ref 2 0),(7,.arr 707),(28,.arr 7214),(29,I (data'_1.length:Int)),(30,I t30)]) (O:=[(2,.box [Zag false boxes]),(707,Zdu 9213 ((l4.set (((l2.length:Int)-1).toNat) (Line.withItems (at_ l4 (((l2.length:Int)-1).toNat)) ([]:List Int))).set (((l2.length:Int)-1).toNat) (Line.mk ((at_ l4 (((l2.length:Int)-1).toNat)).Top) ((at_ l4 (((l2.length:Int)-1).toNat)).Bottom) ((at_ l4 (((l2.length:Int)-1).toNat)).Items++[(at_ data'_1 t30.toNat)])))),(7214,tAI data'_1),(9213,Zcx ((l4.set (((l2.length:Int)-1).toNat) (Line.withItems (at_ l4 (((l2.length:Int)-1).toNat)) ([]:List Int))).set (((l2.length:Int)-1).toNat) (Line.mk ((at_ l4 (((l2.length:Int)-1).toNat)).Top) ((at_ l4 (((l2.length:Int)-1).toNat)).Bottom) ((at_ l4 (((l2.length:Int)-1).toNat)).Items++[(at_ data'_1 t30.toNat)]))))]) rfl (⟨.inl rfl,.inl rfl,.inl rfl,.inl rfl,.inl rfl,.inl rfl,trivial⟩) (⟨.inl rfl,.inr ⟨rfl,rfl,(by first|rfl|(simp;done)),fun i_ hi_=> .inl (Zyw (P:=((l2.length:Int)-1).toNat) (xs:=(l4.set (((l2.length:Int)-1).toNat) (Line.withItems (at_ l4 (((l2.length:Int)-1).toNat)) ([]:List Int)))) (x':=(Line.mk ((at_ l4 (((l2.length:Int)-1).toNat)).Top) ((at_ l4 (((l2.length:Int)-1).toNat)).Bottom) ((at_ l4 (((l2.length:Int)-1).toNat)).Items++[(at_ data'_1 t30.toNat)]))) rfl i_ hi_)⟩,.inl rfl,.inr (Zjn ((by first|omega|(simp only [List.length_set];omega))) (by first|rfl|(simp;done)|(simp;omega)) (fun i_ h_=>(show ∀i_:Nat,i_<(((at_ l4 (((l2.length:Int)-1).toNat)).Items++[(at_ data'_1 t30.toNat)]):List Int).length→(Zgd (((at_ l4 (((l2.length:Int)-1).toNat)).Items).length) (fI ((at_ l4 (((l2.length:Int)-1).toNat)).Items)) (Zfu [I (at_ data'_1 t30.toNat)] 1)) i_=(fI ((at_ l4 (((l2.length:Int)-1).toNat)).Items++[(at_ data'_1 t30.toNat)])) i_ from fun i_ hi_=>(Zeg (enc:=cI) (xs:=(at_ l4 (((l2.length:Int)-1).toNat)).Items) rfl i_ hi_)) i_ (by first|exact h_|(simpa using h_)))),trivial⟩) ?_
     refine x_r [] [1,2,7,28,29,30] [2,707,7214,9213] [I gap,.ref 2 0,.arr 707,.arr 7214,I (data'_1.length:Int),I (t30+1)] [some (.box [Zag false boxes]),some (Zdu 9213 ((l4.set (((l2.length:Int)-1).toNat) (Line.withItems (at_ l4 (((l2.length:Int)-1).toNat)) ([]:List Int))).set (((l2.length:Int)-1).toNat) (Line.mk ((at_ l4 (((l2.length:Int)-1).toNat)).Top) ((at_ l4 (((l2.length:Int)-1).toNat)).Bottom) ((at_ l4 (((l2.length:Int)-1).toNat)).Items++[(at_ data'_1 t30.toNat)])))),some (tAI data'_1),some (Zcx ((l4.set (((l2.length:Int)-1).toNat) (Line.withItems (at_ l4 (((l2.length:Int)-1).toNat)) ([]:List Int))).set (((l2.length:Int)-1).toNat) (Line.mk ((at_ l4 (((l2.length:Int)-1).toNat)).Top) ((at_ l4 (((l2.length:Int)-1).toNat)).Bottom) ((at_ l4 (((l2.length:Int)-1).toNat)).Items++[(at_ data'_1 t30.toNat)]))))] [inR .i64 (t30+1)] ⟨(Zah om om),trivial⟩ ?_
     exact Zcs (((l4.set (((l2.length:Int)-1).toNat) (Line.withItems (at_ l4 (((l2.length:Int)-1).toNat)) ([]:List Int))).set (((l2.length:Int)-1).toNat) (Line.mk ((at_ l4 (((l2.length:Int)-1).toNat)).Top) ((at_ l4 (((l2.length:Int)-1).toNat)).Bottom) ((at_ l4 (((l2.length:Int)-1).toNat)).Items++[(at_ data'_1 t30.toNat)]))),(t30+1)) rfl (show (0≤(t30+1)∧(t30+1)≤(boxes.length:Int))∧(((l4.set (((l2.length:Int)-1).toNat) (Line.withItems (at_ l4 (((l2.length:Int)-1).toNat)) ([]:List Int))).set (((l2.length:Int)-1).toNat) (Line.mk ((at_ l4 (((l2.length:Int)-1).toNat)).Top) ((at_ l4 (((l2.length:Int)-1).toNat)).Bottom) ((at_ l4 (((l2.length:Int)-1).toNat)).Items++[(at_ data'_1 t30.toNat)])))=Zfk boxes gap (Zff boxes) (t30+1).toNat)∧True from ⟨om,(by rw [hnx];show _=Zgv boxes gap (Zfk boxes gap (Zff boxes) t30.toNat) (at_ (Zff boxes) t30.toNat);rw [←hls,←hdi,hadd,List.set_set,h4,←hl4,List.set_set];unfold Zdf;rw [hPe]),trivial⟩) (by first|(show (((boxes.length:Int)-(t30+1)).toNat:Nat)<((boxes.length:Int)-t30).toNat;omega)|(dsimp only;omega))
    have hie2:t30.toNat=boxes.length:=by omega
    rw [hie2] at hls
    refine x_r [(0,.dec false)] [1,2,7,28,29,30,31] [2,707,7214,9213] [I gap,.ref 2 0,.arr 707,.arr 7214,I (data'_1.length:Int),I t30,Bv false] [some (.box [Zag false boxes]),some (Zdu 9213 ls),some (tAI data'_1),some (Zcx ls)] [_] ⟨h2,trivial⟩ (Zad (Zau (Zde rfl (Zdy (Zbd ?_)))))
    refine Zbj ?_
    refine Zbe (Zad (Zau ?_))
    refine xR [] [2,7,89,90,91] [2,707,9213] [.ref 2 0,.arr 707,.arr 707,I (ls.length:Int),I 0] [some (.box [Zag false boxes]),some (Zdu 9213 ls),some (Zcx ls)] [] trivial (Zby ?_)
    refine Zfn (X:=Int×(List Line)) (fun x=>mkS [(2,.ref 2 0),(7,.arr 707),(89,.arr 707),(90,I (ls.length:Int)),(91,I x.1)] [(2,.box [Zag false boxes]),(707,Zdu 9213 x.2),(9213,Zcx x.2)]) (fun x=>(0≤x.1∧x.1≤(ls.length:Int))∧(x.2=Zpz boxes ls x.1.toNat)∧True) (fun x=>((ls.length:Int)-x.1).toNat) (0,ls) rfl (show (0≤(0:Int)∧(0:Int)≤(ls.length:Int))∧(ls=Zpz boxes ls (0:Int).toNat)∧True from ⟨om,(by rw [show (0:Int).toNat=0 from rfl,srtK_0]),trivial⟩) (fun x hI=> ?_)
    obtain ⟨t91,l3⟩:=x
    obtain ⟨hi2,hl3,_⟩:(0≤t91∧t91≤(ls.length:Int))∧(l3=Zpz boxes ls t91.toNat)∧True:=hI
    show XW _ _ _ _ (mkS [(2,.ref 2 0),(7,.arr 707),(89,.arr 707),(90,I (ls.length:Int)),(91,I t91)] [(2,.box [Zag false boxes]),(707,Zdu 9213 l3),(9213,Zcx l3)]) _ _
    refine Zau ?_
    by_cases h5:t91<(ls.length:Int)
    ·have hrr:t91.toNat<ls.length:=by omega
     have hlsn:=Zma boxes gap (Zff boxes) boxes.length
     rw [←hls] at hlsn
     have hl3n:l3.length=ls.length:=by rw [hl3,Zjo]
     have hnx:(t91+1).toNat=t91.toNat+1:=by omega
     have hat:at_ l3 t91.toNat=at_ ls t91.toNat:=by rw [hl3];exact srtK_at hrr
     have hmm:at_ ls t91.toNat∈ls:=Zbf hrr
     rw [←hat] at hmm
     have hsm:=lin_sm (gap:=gap) hp hs om _ (hls▸hmm)
     have hbb:=Zlz (gap:=gap) hp (fun x hx=>Zes.1 hx) boxes.length (by rw [Zdd];exact Nat.le_refl _) _ (hls▸hmm)
     refine x_r [(0,.dec true)] [2,7,89,90,91,92] [2,707,9213] [.ref 2 0,.arr 707,.arr 707,I (ls.length:Int),I t91,Bv true] [some (.box [Zag false boxes]),some (Zdu 9213 l3),some (Zcx l3)] [_] ⟨h5,trivial⟩ (Zad (Zau (Zfv rfl (Zca (Zad (Zau (Zby (Zau ?_))))))))
     refine Znu 707 7214 9213 t91.toNat (Zsy l3) rfl rfl (om) (fun q _=>rfl) (fun _=>rfl) (by kernel_rfl) ?_
     refine Zfm [] (T:=[(2,.ref 2 0),(7,.arr 707),(89,.arr 707),(90,I (ls.length:Int)),(91,I t91),(92,Bv true)]) (O:=[(2,.box [Zag false boxes]),(707,.oar [7214,9213] 3 ((l3.set t91.toNat (Line.withItems (at_ l3 t91.toNat) ([]:List Int))).length) (fun q=>bif Nat.beq q t91.toNat then [I ((at_ l3 t91.toNat).Top),I ((at_ l3 t91.toNat).Bottom),.arr 7214] else (Zeq 9213 (l3.set t91.toNat (Line.withItems (at_ l3 t91.toNat) ([]:List Int)))) q)),(7214,tAI ((at_ l3 t91.toNat).Items)),(9213,Zcx (l3.set t91.toNat (Line.withItems (at_ l3 t91.toNat) ([]:List Int))))]) rfl (⟨.inl rfl,.inl rfl,.inl rfl,.inl rfl,.inl rfl,.inl rfl,trivial⟩) (⟨.inl rfl,.inr ⟨rfl,rfl,(by first|rfl|(simp;done)),fun i_ hi_=> .inl ((Zyv _ i_).trans (AV.renL_nil _).symm)⟩,.inl rfl,.inr (Zjn (om) (by first|rfl|(simp;done)|(simp;omega)) (fun i_ h_=>absurd h_ (Nat.not_lt_zero _))),trivial⟩) ?_
     refine x_q [(1,.as (.agg [I ((at_ l3 t91.toNat).Top),I ((at_ l3 t91.toNat).Bottom),.arr 7214])),(2,.new 14)] [2,7,14,89,90,91] [2,14,707,7214,9213] [(0:Int)≤t91∧t91<(((l3.set t91.toNat (Line.withItems (at_ l3 t91.toNat) ([]:List Int))).length):Int),t91.toNat<(l3.set t91.toNat (Line.withItems (at_ l3 t91.toNat) ([]:List Int))).length∧List.drop 0 ((fun q=>bif Nat.beq q t91.toNat then [I ((at_ l3 t91.toNat).Top),I ((at_ l3 t91.toNat).Bottom),.arr 7214] else (Zeq 9213 (l3.set t91.toNat (Line.withItems (at_ l3 t91.toNat) ([]:List Int)))) q) t91.toNat)=[I ((at_ l3 t91.toNat).Top),I ((at_ l3 t91.toNat).Bottom),.arr 7214]] ⟨⟨(by first|omega|(simp only [List.length_set];omega)),(by first|omega|(simp only [List.length_set];omega))⟩,⟨(by first|omega|(simp only [List.length_set];omega)),(by simp only [Nat.beq_refl,cond_true];rfl)⟩,trivial⟩ (Zad ?_)
     obtain ⟨data'_2,hx2_0,hc2⟩:=Zvu ((at_ l3 t91.toNat).Items) boxes (by first|(rw [hol,hie1];exact sm_ixY hs)|exact hsm) (by first|(rw [hol,hie1];exact fun x hx=>Zly.1 hx)|exact hbb.2.1)
     have hit:=hx2_0
     refine x_r [(3,.call [(true,.any)] false (.fn 80 [.ptr false [Zag false boxes]])),(4,.lend [(7214,tAI ((at_ l3 t91.toNat).Items),tAI data'_2)] [] [(true,.any),(true,.any)] true (.tup []))] [2,7,89,90,91] [2,707,7214,9213] [.ref 2 0,.arr 707,.arr 707,I (ls.length:Int),I t91] [some (.box [Zag false boxes]),some (.oar [7214,9213] 3 ((l3.set t91.toNat (Line.withItems (at_ l3 t91.toNat) ([]:List Int))).length) (fun q=>bif Nat.beq q t91.toNat then [I ((at_ l3 t91.toNat).Top),I ((at_ l3 t91.toNat).Bottom),.arr 7214] else (Zeq 9213 (l3.set t91.toNat (Line.withItems (at_ l3 t91.toNat) ([]:List Int)))) q)),some (tAI data'_2),some (Zcx (l3.set t91.toNat (Line.withItems (at_ l3 t91.toNat) ([]:List Int))))] [_∧True,Zap Try.prog 66 [.arr 7214,.fn 80 [.ptr false [Zag false boxes]]] (Zac [(7214,tAI ((at_ l3 t91.toNat).Items))]) true (.tup []) (Zac [(7214,tAI data'_2)])∧(((tAI ((at_ l3 t91.toNat).Items):Ob)=tAI ((at_ l3 t91.toNat).Items)∨Zdt Zdh true (tAI ((at_ l3 t91.toNat).Items)) (tAI ((at_ l3 t91.toNat).Items)))∧Zal false (tAI ((at_ l3 t91.toNat).Items)))∧True] ⟨⟨(Znc boxes),trivial⟩,⟨hc2,⟨.inl rfl,fun _ _=>Zro false _⟩,trivial⟩,trivial⟩ (Zbt 5 (Zad ?_))
     refine Zrg 707 7214 9213 t91.toNat (fun q=>bif Nat.beq q t91.toNat then [I ((at_ l3 t91.toNat).Top),I ((at_ l3 t91.toNat).Bottom)] else Zsy (l3.set t91.toNat (Line.withItems (at_ l3 t91.toNat) ([]:List Int))) q) rfl rfl rfl ((by first|omega|(simp only [List.length_set];omega))) (by first|exact Nat.le_refl _|(simp;done)|omega) (fun q _=>⟨fun e=>by subst e;simp only [Nat.beq_refl,cond_true];rfl,fun e=>by simp only [Znz e,cond_false];rfl⟩) (fun q=>by cases Nat.beq q t91.toNat<;>rfl) (by kernel_rfl) ?_
     refine Zfm [] (T:=[(2,.ref 2 0),(7,.arr 707),(89,.arr 707),(90,I (ls.length:Int)),(91,I t91)]) (O:=[(2,.box [Zag false boxes]),(707,Zdu 9213 ((l3.set t91.toNat (Line.withItems (at_ l3 t91.toNat) ([]:List Int))).set t91.toNat (Line.mk ((at_ l3 t91.toNat).Top) ((at_ l3 t91.toNat).Bottom) data'_2))),(9213,Zcx ((l3.set t91.toNat (Line.withItems (at_ l3 t91.toNat) ([]:List Int))).set t91.toNat (Line.mk ((at_ l3 t91.toNat).Top) ((at_ l3 t91.toNat).Bottom) data'_2)))]) rfl (⟨.inl rfl,.inl rfl,.inl rfl,.inl rfl,.inl rfl,trivial⟩) (⟨.inl rfl,.inr ⟨rfl,rfl,(by first|rfl|(simp;done)),fun i_ hi_=> .inl (Zyw (P:=t91.toNat) (xs:=(l3.set t91.toNat (Line.withItems (at_ l3 t91.toNat) ([]:List Int)))) (x':=(Line.mk ((at_ l3 t91.toNat).Top) ((at_ l3 t91.toNat).Bottom) data'_2)) rfl i_ hi_)⟩,.inr (Zjn ((by first|omega|(simp only [List.length_set];omega))) (by first|rfl|(simp;done)|(simp;omega)) (fun i _=>rfl)),trivial⟩) ?_
     refine x_r [] [2,7,89,90,91] [2,707,9213] [.ref 2 0,.arr 707,.arr 707,I (ls.length:Int),I (t91+1)] [some (.box [Zag false boxes]),some (Zdu 9213 ((l3.set t91.toNat (Line.withItems (at_ l3 t91.toNat) ([]:List Int))).set t91.toNat (Line.mk ((at_ l3 t91.toNat).Top) ((at_ l3 t91.toNat).Bottom) data'_2))),some (Zcx ((l3.set t91.toNat (Line.withItems (at_ l3 t91.toNat) ([]:List Int))).set t91.toNat (Line.mk ((at_ l3 t91.toNat).Top) ((at_ l3 t91.toNat).Bottom) data'_2)))] [inR .i64 (t91+1)] ⟨(Zah om om),trivial⟩ ?_
     exact Zcs ((t91+1),((l3.set t91.toNat (Line.withItems (at_ l3 t91.toNat) ([]:List Int))).set t91.toNat (Line.mk ((at_ l3 t91.toNat).Top) ((at_ l3 t91.toNat).Bottom) data'_2))) rfl (show (0≤(t91+1)∧(t91+1)≤(ls.length:Int))∧(((l3.set t91.toNat (Line.withItems (at_ l3 t91.toNat) ([]:List Int))).set t91.toNat (Line.mk ((at_ l3 t91.toNat).Top) ((at_ l3 t91.toNat).Bottom) data'_2))=Zpz boxes ls (t91+1).toNat)∧True from ⟨(by (first|omega|(simp;omega))),(by rw [hnx,List.set_set,hit,hat,hl3];exact srtK_set hrr rfl),trivial⟩) (by first|(show (((ls.length:Int)-(t91+1)).toNat:Nat)<((ls.length:Int)-t91).toNat;omega)|(dsimp only;omega))
    have hfin:l3=Zkp boxes gap:=by rw [hl3,show t91.toNat=ls.length from by omega,srtK_end,hls];rfl
    refine x_r [(0,.dec false)] [2,7,89,90,91,92] [2,707,9213] [.ref 2 0,.arr 707,.arr 707,I (ls.length:Int),I t91,Bv false] [some (.box [Zag false boxes]),some (Zdu 9213 l3),some (Zcx l3)] [_] ⟨h5,trivial⟩ (Zad (Zau (Zde rfl (Zdy (Zbd ?_)))))
    refine Zbj ?_
    refine Zbe (Zad ?_)
    refine xR [] [4] [707,9213] [.arr 707] [some (Zdu 9213 l3),some (Zcx l3)] [] trivial (Zcl ?_)
    refine Zbs l3 (show (l3=Zkp boxes gap)∧(True) from ⟨(by exact hfin),trivial⟩) (trivial) (.arr 707) (by kernel_rfl) (.inr ⟨(fun _=>rfl),rfl,rfl,oleLine _ _ rfl⟩) (fun _=>rfl) (fun _=>(Zdw true _))
  obtain ⟨v,⟨hh0,_⟩,hc⟩:=hh
  exact ⟨v,hh0,hc⟩
theorem Zfy (boxes:List Box) (gap:Int) (hs:Zbx boxes=true→smB boxes):∃(v:List Line) (c:Int),((v,c)=Zcm boxes gap)∧Con Try.prog 7 [Zag false boxes,I gap] true (.tup [Zan true v,I c]):=by
  have hh:∃r:(List Line)×Int,(((r.1,r.2)=Zcm boxes gap)∧(True))∧Zap Try.prog 7 [Zag false boxes,I gap] (Zac []) true (.tup [Zan true r.1,I r.2]) (Zac []):=by
    refine Zda (Φ:=fun r:(List Line)×Int=>((r.1,r.2)=Zcm boxes gap)∧(True)) [] (fun r=>[]) (fn:=Try.f7) (nt:=15) Try.func7 rfl rfl (args:=[Zag false boxes,I gap]) rfl (Zax (.inl ⟨rfl,Zbz false _⟩) (Zax (.inl ⟨rfl,trivial⟩) Zcz)) (res:=fun r=> .tup [Zan true r.1,I r.2]) ?_
    refine xQ [] [0,1] [] [] trivial (Zau (Zau ?_))
    rcases Bool.eq_false_or_eq_true (Zbx boxes) with h1|h1
    ·have hsm:=hs h1
     refine x_q [(1,.call [(true,.any)] true (Bv true))] [0,1,8] [] [Con Try.prog 32 [Zag false boxes] true (Bv true)∧True] ⟨⟨(Zas h1 (Zjh boxes)),trivial⟩,trivial⟩ (Zad (Ziv (Zca (Zad (Zau (Zau ?_))))))
     rcases Bool.eq_false_or_eq_true (inB gap 0 4095) with h2|h2
     ·have hgp:=Zfz.1 h2
      have hst:=lr_ok h1 h2
      refine x_q [(1,.call [(true,.any)] true (Bv true))] [0,1,11] [] [Con Try.prog 33 [I gap] true (Bv true)∧True] ⟨⟨(Zas h2 (Zut gap)),trivial⟩,trivial⟩ (Zad (Ziv (Zca (Zad (Zau ?_)))))
      obtain ⟨v_1,hx1_0,hc1⟩:=Zna boxes gap h1 om hsm
      have hlv:=hx1_0
      refine x_r [(2,.call [(true,.any),(true,.any)] true (Zan true v_1))] [4,5] [] [Zan true v_1,I 0] [] [_∧True] ⟨⟨hc1,trivial⟩,trivial⟩ (Zad (Zcl ?_))
      refine Zbs (v_1,0) (show ((v_1,0)=Zcm boxes gap)∧(True) from ⟨(by first|exact hst.symm|(rw [hst,←hlv])|(rw [hst,hlv])),trivial⟩) (trivial) (.tup [Zan true v_1,I 0]) (by kernel_rfl) (.inl rfl) (fun _=>rfl) (fun _=>(by simp [Zaj,Zaf,Zdw]))
     have hst:=lr_rng h1 h2
     refine x_q [(1,.call [(true,.any)] true (Bv false))] [0,1,11] [] [Con Try.prog 33 [I gap] true (Bv false)∧True] ⟨⟨(Zas h2 (Zut gap)),trivial⟩,trivial⟩ (Zad (Zib ?_))
     refine xR [] [4,5] [] [Zni,I 2] [] [] trivial (Zcl (Zcy ?_))
     refine Zbs (([]:List Line),2) (show ((([]:List Line),2)=Zcm boxes gap)∧(True) from ⟨(by first|exact hst.symm|(rw [hst,←hlv])|(rw [hst,hlv])),trivial⟩) (trivial) (.tup [Zni,I 2]) (by kernel_rfl) (.inr ⟨⟨rfl,rfl⟩,⟨rfl,rfl⟩⟩) (fun _=>rfl) (fun _=>(by simp [Zaj,Zaf,Zdw]))
    have hst:=lr_inv (gap:=gap) h1
    refine x_q [(1,.call [(true,.any)] true (Bv false))] [0,1,8] [] [Con Try.prog 32 [Zag false boxes] true (Bv false)∧True] ⟨⟨(Zas h1 (Zjh boxes)),trivial⟩,trivial⟩ (Zad (Zib ?_))
    refine xR [] [4,5] [] [Zni,I 1] [] [] trivial (Zcl (Zcy ?_))
    refine Zbs (([]:List Line),1) (show ((([]:List Line),1)=Zcm boxes gap)∧(True) from ⟨(by first|exact hst.symm|(rw [hst,←hlv])|(rw [hst,hlv])),trivial⟩) (trivial) (.tup [Zni,I 1]) (by kernel_rfl) (.inr ⟨⟨rfl,rfl⟩,⟨rfl,rfl⟩⟩) (fun _=>rfl) (fun _=>(by simp [Zaj,Zaf,Zdw]))
  obtain ⟨⟨v,c⟩,⟨hh0,_⟩,hc⟩:=hh
  exact ⟨v,c,hh0,hc⟩
theorem Zdo (n:Int) (low:Int) (high:Int):Con Try.prog 46 [I n,I low,I high] true (Bv (inB n low high)):=by
  refine Zcn (fn:=Try.f46) (nt:=15) Try.func46 rfl rfl rfl rfl (by simp [Zaf,Zaj]) fun B hB=> ?_
  refine aQ [] [0,1,2] [] [] hB trivial (Zae ?_)
  by_cases h1:low≤n
  ·refine Zdk [(2,.dec true)] [6] [] [Bv (decide (n≤high))] [] [_] hB ⟨h1,trivial⟩ (Zab (Zav ?_))
   refine Zat hB (Bv (decide (n≤high))) (by kernel_rfl) (.inl (by first|rfl|(refine congrArg Bv ?_;simp [inB, *];done)|(refine congrArg Bv ?_;simp [inB, *];omega)|(refine congrArg Bv ?_;simp_all [inB];done)|(refine congrArg Bv ?_;simp_all [inB];omega))) rfl (fun _=>trivial)
  refine Zdk [(2,.dec false)] [6] [] [Bv false] [] [_] hB ⟨h1,trivial⟩ (Zab (Zav ?_))
  refine Zat hB (Bv false) (by kernel_rfl) (.inl (by first|rfl|(refine congrArg Bv ?_;simp [inB, *];done)|(refine congrArg Bv ?_;simp [inB, *];omega)|(refine congrArg Bv ?_;simp_all [inB];done)|(refine congrArg Bv ?_;simp_all [inB];omega))) rfl (fun _=>trivial)
theorem Zrp (b:Box):Con Try.prog 68 [Zga b] true (Bv (Zdx b)):=by
  refine Zcn (fn:=Try.f68) (nt:=25) Try.func68 rfl rfl rfl rfl (by simp [Zaf,Zaj]) fun B hB=> ?_
  refine aQ [(0,.new 1)] [1] [1] [] hB trivial (Zae ?_)
  rcases Bool.eq_false_or_eq_true (inB b.X1 0 b.X2) with h1|h1
  ·rcases Bool.eq_false_or_eq_true (inB b.Y1 0 b.Y2) with h2|h2
   ·by_cases h3:b.X2≤4095
    ·refine Zdk [(4,.call [(true,.any),(true,.any),(true,.any)] true (Bv true)),(10,.call [(true,.any),(true,.any),(true,.any)] true (Bv true)),(15,.dec true)] [2] [] [Bv (decide (b.Y2≤4095))] [] [Con Try.prog 46 [I b.X1,I 0,I b.X2] true (Bv true)∧True,Con Try.prog 46 [I b.Y1,I 0,I b.Y2] true (Bv true)∧True,_] hB ⟨⟨(Zas h1 (Zdo b.X1 0 b.X2)),trivial⟩,⟨(Zas h2 (Zdo b.Y1 0 b.Y2)),trivial⟩,h3,trivial⟩ (Zab (Zav ?_))
     refine Zat hB (Bv (decide (b.Y2≤4095))) (by kernel_rfl) (.inl (by first|rfl|(refine congrArg Bv ?_;simp [Zdx,inB, *];done)|(refine congrArg Bv ?_;simp [Zdx,inB, *];omega)|(refine congrArg Bv ?_;simp_all [Zdx,inB];done)|(refine congrArg Bv ?_;simp_all [Zdx,inB];omega))) rfl (fun _=>trivial)
    refine Zdk [(4,.call [(true,.any),(true,.any),(true,.any)] true (Bv true)),(10,.call [(true,.any),(true,.any),(true,.any)] true (Bv true)),(15,.dec false)] [2] [] [Bv false] [] [Con Try.prog 46 [I b.X1,I 0,I b.X2] true (Bv true)∧True,Con Try.prog 46 [I b.Y1,I 0,I b.Y2] true (Bv true)∧True,_] hB ⟨⟨(Zas h1 (Zdo b.X1 0 b.X2)),trivial⟩,⟨(Zas h2 (Zdo b.Y1 0 b.Y2)),trivial⟩,h3,trivial⟩ (Zab (Zav ?_))
    refine Zat hB (Bv false) (by kernel_rfl) (.inl (by first|rfl|(refine congrArg Bv ?_;simp [Zdx,inB, *];done)|(refine congrArg Bv ?_;simp [Zdx,inB, *];omega)|(refine congrArg Bv ?_;simp_all [Zdx,inB];done)|(refine congrArg Bv ?_;simp_all [Zdx,inB];omega))) rfl (fun _=>trivial)
   refine Zdk [(4,.call [(true,.any),(true,.any),(true,.any)] true (Bv true)),(10,.call [(true,.any),(true,.any),(true,.any)] true (Bv false))] [2] [] [Bv false] [] [Con Try.prog 46 [I b.X1,I 0,I b.X2] true (Bv true)∧True,Con Try.prog 46 [I b.Y1,I 0,I b.Y2] true (Bv false)∧True] hB ⟨⟨(Zas h1 (Zdo b.X1 0 b.X2)),trivial⟩,⟨(Zas h2 (Zdo b.Y1 0 b.Y2)),trivial⟩,trivial⟩ (Zab (Zav ?_))
   refine Zat hB (Bv false) (by kernel_rfl) (.inl (by first|rfl|(refine congrArg Bv ?_;simp [Zdx,inB, *];done)|(refine congrArg Bv ?_;simp [Zdx,inB, *];omega)|(refine congrArg Bv ?_;simp_all [Zdx,inB];done)|(refine congrArg Bv ?_;simp_all [Zdx,inB];omega))) rfl (fun _=>trivial)
  refine Zdk [(4,.call [(true,.any),(true,.any),(true,.any)] true (Bv false))] [2] [] [Bv false] [] [Con Try.prog 46 [I b.X1,I 0,I b.X2] true (Bv false)∧True] hB ⟨⟨(Zas h1 (Zdo b.X1 0 b.X2)),trivial⟩,trivial⟩ (Zab (Zav ?_))
  refine Zat hB (Bv false) (by kernel_rfl) (.inl (by first|rfl|(refine congrArg Bv ?_;simp [Zdx,inB, *];done)|(refine congrArg Bv ?_;simp [Zdx,inB, *];omega)|(refine congrArg Bv ?_;simp_all [Zdx,inB];done)|(refine congrArg Bv ?_;simp_all [Zdx,inB];omega))) rfl (fun _=>trivial)
theorem Zmc (boxes:List Box):Con Try.prog 35 [Zag false boxes] true (Bv (Zbx boxes)):=by
  refine Zcn (fn:=Try.f35) (nt:=19) Try.func35 rfl rfl rfl rfl (by simp [Zaf,Zaj,Zbz]) fun B hB=> ?_
  refine Zbk (x:=Zag false boxes) 0 rfl (fun len_boxes=> ?_)
  simp [Zco,Zfb,Zmo,Zdi,Zag] at len_boxes
  refine aQ [] [0] [] [] hB trivial (Zae ?_)
  refine aR [] [0,3] [] [Zag false boxes,I 0] [] [] hB trivial (Zao ?_)
  refine Zbq (fun gn gσ=>∃(i:Int),gn=((boxes.length:Int)-i).toNat∧(0≤i∧i≤(boxes.length:Int))∧(∀j:Nat,(j:Int)<i→Zdx (at_ boxes j)=true)∧gσ=mkS [(0,Zag false boxes),(3,I i)] []) (((boxes.length:Int)-0).toNat) ⟨0,rfl,om,(by intro j hj;omega),rfl⟩ (fun gn gσ hI=> ?_)
  obtain ⟨i,rfl,hi0,hall0,rfl⟩:=hI
  refine Zae (Zae ?_)
  by_cases h1:i<(boxes.length:Int)
  ·have hi:i.toNat<boxes.length:=by omega
   refine Zbm [(3,.dec true)] [0,3,7] [] [_] hB ⟨h1,trivial⟩ (Zab (Zbp (Zam (Zab (Zae (Zao (Zae ?_)))))))
   rcases Bool.eq_false_or_eq_true (Zdx (at_ boxes i.toNat)) with h2|h2
   ·refine Zbm [(4,.call [(true,.any)] true (Bv true))] [0,3,15] [] [(0:Int)≤i∧i<(boxes.length:Int),Con Try.prog 68 [Zga (at_ boxes i.toNat)] true (Bv true)∧True] hB ⟨⟨om,om⟩,⟨(Zas h2 (Zrp (at_ boxes i.toNat))),trivial⟩,trivial⟩ (Zab (Zbc (Zam (Zay 1 (Zab ?_)))))
    refine Zdk [] [0,3] [] [Zag false boxes,I (i+1)] [] [inR .i64 (i+1)] hB ⟨(Zah om om),trivial⟩ ?_
    exact Zaz _ om ⟨(i+1),rfl,om,(by intro j hj;by_cases ej:j=i.toNat;(subst ej;first|assumption|exact hok);exact hall0 j om),rfl⟩
   have hall:Zlb boxes.length (fun j=>Zdx (at_ boxes j))=false:=Zhw hi h2
   refine Zbm [(4,.call [(true,.any)] true (Bv false))] [0,3,15] [] [(0:Int)≤i∧i<(boxes.length:Int),Con Try.prog 68 [Zga (at_ boxes i.toNat)] true (Bv false)∧True] hB ⟨⟨om,om⟩,⟨(Zas h2 (Zrp (at_ boxes i.toNat))),trivial⟩,trivial⟩ (Zab (Zbp ?_))
   refine aR [] [2] [] [Bv false] [] [] hB trivial (Zav ?_)
   refine Zar (Zak (Zak (Zar (Zak ?_))))
   refine Zat hB (Bv false) (by kernel_rfl) (.inl (by simp [Zbx, *])) rfl (fun _=>trivial)
  have hall:Zlb boxes.length (fun j=>Zdx (at_ boxes j))=true:=Zgx (fun j hj=>hall0 j om)
  refine Zbm [(3,.dec false)] [0,3,7] [] [_] hB ⟨h1,trivial⟩ (Zab (Zbc (Zbr (Zai (Zai (Zaq (Zab ?_)))))))
  refine aR [] [2] [] [Bv (decide ((boxes.length:Int)≤60))] [] [] hB trivial (Zav ?_)
  refine Zat hB (Bv (decide ((boxes.length:Int)≤60))) (by kernel_rfl) (.inl (by simp [Zbx, *])) rfl (fun _=>trivial)
theorem Zrh (gap:Int):Con Try.prog 36 [I gap] true (Bv (inB gap 0 4095)):=by
 refine Zcn (fn:=Try.f36) (nt:=5) Try.func36 rfl rfl rfl rfl (by simp [Zaf,Zaj]) fun B hB=> ?_
 refine aQ [] [0] [] [] hB trivial ?_
 refine aR [(1,.call [(true,.any),(true,.any),(true,.any)] true (Bv (inB gap 0 4095)))] [2] [] [Bv (inB gap 0 4095)] [] [_∧True] hB ⟨⟨(Zdo gap 0 4095),trivial⟩,trivial⟩ (Zav ?_)
 refine Zat hB (Bv (inB gap 0 4095)) (by kernel_rfl) (.inl rfl) rfl (fun _=>trivial)
theorem Zmj (boxes:List Box) (a:Int) (b:Int) (ha:0≤a∧a<(boxes.length:Int)) (hb:0≤b∧b<(boxes.length:Int)):Con Try.prog 74 [Zag false boxes,I a,I b] true (Bv (lftB boxes a b)):=by
  refine Zcn (fn:=Try.f74) (nt:=42) Try.func74 rfl rfl rfl rfl (by simp [Zaf,Zaj,Zbz]) fun B hB=> ?_
  refine Zbk (x:=Zag false boxes) 0 rfl (fun len_boxes=> ?_)
  simp [Zco,Zfb,Zmo,Zdi,Zag] at len_boxes
  refine aQ [] [0,1,2] [] [] hB trivial ?_
  refine aQ [(4,.new 7)] [0,1,2,7] [7] [(0:Int)≤a∧a<(boxes.length:Int)] hB ⟨⟨om,om⟩,trivial⟩ ?_
  refine aQ [(4,.new 8)] [1,2,7,8] [7,8] [(0:Int)≤b∧b<(boxes.length:Int)] hB ⟨⟨om,om⟩,trivial⟩ (Zae (Zao (Zae ?_)))
  by_cases h1:((at_ boxes a.toNat).X1)=((at_ boxes b.toNat).X1)
  ·refine Zdk [(4,.dec false)] [1,2,7,8,17] [7,8] [I a,I b,.ref 7 0,.ref 8 0,Bv false] [some (Zgu (at_ boxes a.toNat)),some (Zgu (at_ boxes b.toNat))] [¬ (((at_ boxes a.toNat).X1)≠((at_ boxes b.toNat).X1))] hB ⟨(fun hq=>hq h1),trivial⟩ (Zab (Zdc rfl (Zae ?_)))
   by_cases h2:((at_ boxes a.toNat).X2)=((at_ boxes b.toNat).X2)
   ·refine Zbm [(4,.dec false)] [1,2,7,8,28] [7,8] [¬ (((at_ boxes a.toNat).X2)≠((at_ boxes b.toNat).X2))] hB ⟨(fun hq=>hq h2),trivial⟩ (Zab (Zbc (Zam (Zay 0 (Zab ?_)))))
    refine aR [] [6] [] [Bv (decide (a<b))] [] [] hB trivial (Zav ?_)
    refine Zat hB (Bv (decide (a<b))) (by kernel_rfl) (.inl (by first|(refine congrArg Bv (decide_eq_decide.2 ?_);rw [Zko];omega)|(refine congrArg Bv (Eq.symm (decide_eq_true ?_));rw [Zko];omega)|(refine congrArg Bv (Eq.symm (decide_eq_false ?_));rw [Zko];omega))) rfl (fun _=>trivial)
   refine Zbm [(4,.dec true)] [1,2,7,8,28] [7,8] [_] hB ⟨h2,trivial⟩ (Zab (Zbp ?_))
   refine aR [] [6] [] [Bv (decide (((at_ boxes a.toNat).X2)<((at_ boxes b.toNat).X2)))] [] [] hB trivial (Zav ?_)
   refine Zar (Zak ?_)
   refine Zat hB (Bv (decide (((at_ boxes a.toNat).X2)<((at_ boxes b.toNat).X2)))) (by kernel_rfl) (.inl (by first|(refine congrArg Bv (decide_eq_decide.2 ?_);rw [Zko];omega)|(refine congrArg Bv (Eq.symm (decide_eq_true ?_));rw [Zko];omega)|(refine congrArg Bv (Eq.symm (decide_eq_false ?_));rw [Zko];omega))) rfl (fun _=>trivial)
  refine Zbm [(4,.dec true)] [1,2,7,8,17] [7,8] [_] hB ⟨h1,trivial⟩ (Zab (Zbp ?_))
  refine aR [] [6] [] [Bv (decide (((at_ boxes a.toNat).X1)<((at_ boxes b.toNat).X1)))] [] [] hB trivial (Zav ?_)
  refine Zar (Zak ?_)
  refine Zat hB (Bv (decide (((at_ boxes a.toNat).X1)<((at_ boxes b.toNat).X1)))) (by kernel_rfl) (.inl (by first|(refine congrArg Bv (decide_eq_decide.2 ?_);rw [Zko];omega)|(refine congrArg Bv (Eq.symm (decide_eq_true ?_));rw [Zko];omega)|(refine congrArg Bv (Eq.symm (decide_eq_false ?_));rw [Zko];omega))) rfl (fun _=>trivial)
theorem Zha (boxes:List Box) (a:Int) (b:Int) (ha:0≤a∧a<(boxes.length:Int)) (hb:0≤b∧b<(boxes.length:Int)):Con Try.prog 82 [Zag false boxes,I a,I b] true (Bv (hghB boxes a b)):=by
  refine Zcn (fn:=Try.f82) (nt:=32) Try.func82 rfl rfl rfl rfl (by simp [Zaf,Zaj,Zbz]) fun B hB=> ?_
  refine Zbk (x:=Zag false boxes) 0 rfl (fun len_boxes=> ?_)
  simp [Zco,Zfb,Zmo,Zdi,Zag] at len_boxes
  refine aQ [] [0,1,2] [] [] hB trivial (Zae (Zae ?_))
  by_cases h1:((at_ boxes a.toNat).Y1)=((at_ boxes b.toNat).Y1)
  ·refine Zbm [(10,.dec false)] [0,1,2,17] [] [(0:Int)≤a∧a<(boxes.length:Int),(0:Int)≤b∧b<(boxes.length:Int),¬ (((at_ boxes a.toNat).Y1)≠((at_ boxes b.toNat).Y1))] hB ⟨⟨om,om⟩,⟨om,om⟩,(fun hq=>hq h1),trivial⟩ (Zab (Zbc (Zam (Zab ?_))))
   refine aR [] [6] [] [Bv (decide (a<b))] [] [] hB trivial (Zav ?_)
   refine Zat hB (Bv (decide (a<b))) (by kernel_rfl) (.inl (by first|(refine congrArg Bv (decide_eq_decide.2 ?_);rw [Zsz];omega)|(refine congrArg Bv (Eq.symm (decide_eq_true ?_));rw [Zsz];omega)|(refine congrArg Bv (Eq.symm (decide_eq_false ?_));rw [Zsz];omega))) rfl (fun _=>trivial)
  refine Zbm [(10,.dec true)] [0,1,2,17] [] [(0:Int)≤a∧a<(boxes.length:Int),(0:Int)≤b∧b<(boxes.length:Int),_] hB ⟨⟨om,om⟩,⟨om,om⟩,h1,trivial⟩ (Zab (Zbp ?_))
  refine aR [] [6] [] [Bv (decide (((at_ boxes a.toNat).Y1)<((at_ boxes b.toNat).Y1)))] [] [(0:Int)≤a∧a<(boxes.length:Int),(0:Int)≤b∧b<(boxes.length:Int)] hB ⟨⟨om,om⟩,⟨om,om⟩,trivial⟩ (Zav (Zak ?_))
  refine Zat hB (Bv (decide (((at_ boxes a.toNat).Y1)<((at_ boxes b.toNat).Y1)))) (by kernel_rfl) (.inl (by first|(refine congrArg Bv (decide_eq_decide.2 ?_);rw [Zsz];omega)|(refine congrArg Bv (Eq.symm (decide_eq_true ?_));rw [Zsz];omega)|(refine congrArg Bv (Eq.symm (decide_eq_false ?_));rw [Zsz];omega))) rfl (fun _=>trivial)
theorem Zhp (list:List Int) (hl:list.length≤100000):∃(out:List Int),(out=list)∧Zap Try.prog 40 [slI false list] (Zac []) false (.arr 8201) (Zac [(8201,tAI out)]):=by
 have hh:∃r:(List Int),((r=list)∧(True))∧Zap Try.prog 40 [slI false list] (Zac []) false (.arr 8201) (Zac [(8201,tAI r)]):=by
  refine Zda (Φ:=fun r:(List Int)=>(r=list)∧(True)) [] (fun r=>[(8201,tAI r)]) (fn:=Try.f40) (nt:=6) Try.func40 rfl rfl (args:=[slI false list]) rfl (Zax (.inl ⟨rfl,Zje false _⟩) Zcz) (res:=fun r=> .arr 8201) ?_
  refine xQ [] [0] [] [] trivial ?_
  refine xR [(0,.new 3),(2,.new 5)] [2] [5] [.arr 5] [some (.arr 1 (0+list.length) (Zgd 0 (Zfu [] 1) (fI list)))] [(0+list.length)*8≤140737488355328] ⟨om,trivial⟩ (Zcl ?_)
  refine Zdl [(8201,5)] (T:=[(2,.arr 8201)]) (O:=[(8201,tAI list)]) rfl (⟨.inl rfl,trivial⟩) (⟨.inr ⟨rfl,(by first|rfl|(simp;done)|(simp;omega)|omega),fun i_ hi_=> .inl (cat_nil i_)⟩,trivial⟩) ?_
  refine Zbs list (show (list=list)∧(True) from ⟨(by first|rfl|simp),trivial⟩) (⟨.inl rfl,trivial⟩) (.arr 8201) (by kernel_rfl) (.inl rfl) (fun h=>by cases h) (fun h=>by cases h)
 obtain ⟨out,⟨hh0,_⟩,hc⟩:=hh
 exact ⟨out,hh0,hc⟩
theorem Znv (boxes:List Box) (list:List Int) (k:Int) (high:Bool) (hl:list.length≤1000) (hk:0≤k∧k<(boxes.length:Int)) (hx:ixIn boxes.length list):∃(out:List Int),(out=Znd (if high=true then cH boxes else cL boxes) list k)∧Zap Try.prog 69 [Zag false boxes,slI false list,I k,Bv high] (Zac []) false (.arr 8221) (Zac [(8221,tAI out)]):=by
  have hh:∃r:(List Int),((r=Znd (if high=true then cH boxes else cL boxes) list k)∧(True))∧Zap Try.prog 69 [Zag false boxes,slI false list,I k,Bv high] (Zac []) false (.arr 8221) (Zac [(8221,tAI r)]):=by
    refine Zda (Φ:=fun r:(List Int)=>(r=Znd (if high=true then cH boxes else cL boxes) list k)∧(True)) [] (fun r=>[(8221,tAI r)]) (fn:=Try.f69) (nt:=49) Try.func69 rfl rfl (args:=[Zag false boxes,slI false list,I k,Bv high]) rfl (Zax (.inl ⟨rfl,Zbz false _⟩) (Zax (.inl ⟨rfl,Zje false _⟩) (Zax (.inl ⟨rfl,trivial⟩) (Zax (.inl ⟨rfl,trivial⟩) Zcz)))) (res:=fun r=> .arr 8221) ?_
    refine xQ [] [0,1,2,3] [] [] trivial ?_
    refine xR [] [0,1,2,3,9] [] [Zag false boxes,slI false list,I k,Bv high,I (list.length:Int)] [] [] trivial (Zau (Zby ?_))
    refine Zfn (X:=Int) (fun x=>mkS [(0,Zag false boxes),(1,slI false list),(2,I k),(3,Bv high),(9,I x)] []) (fun x=>(0≤x∧x≤(list.length:Int))∧(∀j:Nat,x≤(j:Int)→j<list.length→(if high=true then cH boxes else cL boxes) k (at_ list j)<0)∧True) (fun x=>x.toNat) (list.length:Int) rfl (show (0≤(list.length:Int)∧(list.length:Int)≤(list.length:Int))∧(∀j:Nat,(list.length:Int)≤(j:Int)→j<list.length→(if high=true then cH boxes else cL boxes) k (at_ list j)<0)∧True from ⟨om,(by intro j h1 h2;omega),trivial⟩) (fun x hI=> ?_)
    obtain ⟨at_x,hxx⟩:∃at_x:Int,at_x=x:=⟨x,rfl⟩
    subst hxx
    obtain ⟨hat,hgt,_⟩:(0≤at_x∧at_x≤(list.length:Int))∧(∀j:Nat,at_x≤(j:Int)→j<list.length→(if high=true then cH boxes else cL boxes) k (at_ list j)<0)∧True:=hI
    show XW _ _ _ _ (mkS [(0,Zag false boxes),(1,slI false list),(2,I k),(3,Bv high),(9,I at_x)] []) _ _
    refine Zau (Zau ?_)
    by_cases h1:0<at_x
    ·refine x_q [(1,.dec true)] [0,1,2,3,9,15] [] [_] ⟨h1,trivial⟩ (Zad (Zib (Zca (Zad (Zby (Zau ?_))))))
     rcases Bool.eq_false_or_eq_true (lftB boxes k (at_ list ((at_x-1).toNat))) with h2|h2
     ·have hq1:cL boxes k (at_ list (at_x-1).toNat)<0:=of_decide_eq_true h2
      refine x_q [(7,.call [(true,.any),(true,.any),(true,.any)] true (Bv true))] [0,1,2,3,9,10] [] [inR .i64 (at_x-1),(0:Int)≤(at_x-1)∧(at_x-1)<(list.length:Int),Con Try.prog 74 [Zag false boxes,I k,I (at_ list ((at_x-1).toNat))] true (Bv true)∧True] ⟨(Zah om om),⟨om,om⟩,⟨(Zas h2 (Zmj boxes k (at_ list ((at_x-1).toNat)) om (Zke hx om))),trivial⟩,trivial⟩ (Zad (Zau ?_))
      refine xR [] [0,1,2,3,9,10,24] [] [Zag false boxes,slI false list,I k,Bv high,I at_x,Bv true,Bv high] [] [] trivial ?_
      rcases Bool.eq_false_or_eq_true high with h3|h3
      ·refine Zfv (congrArg Bv h3) ?_
       rcases Bool.eq_false_or_eq_true (hghB boxes k (at_ list ((at_x-1).toNat))) with h4|h4
       ·have hcp:(if high=true then cH boxes else cL boxes) k (at_ list (at_x-1).toNat)<0:=by rw [if_pos (by assumption)];exact of_decide_eq_true h4
        refine x_q [(7,.call [(true,.any),(true,.any),(true,.any)] true (Bv true))] [0,1,2,3,9,10] [] [inR .i64 (at_x-1),(0:Int)≤(at_x-1)∧(at_x-1)<(list.length:Int),Con Try.prog 82 [Zag false boxes,I k,I (at_ list ((at_x-1).toNat))] true (Bv true)∧True] ⟨(Zah om om),⟨om,om⟩,⟨(Zas h4 (Zha boxes k (at_ list ((at_x-1).toNat)) om (Zke hx om))),trivial⟩,trivial⟩ (Zad (Zau ?_))
        refine xQ [] [0,1,2,3,9,34] [] [] trivial (Ziv (Zca (Zad ?_)))
        refine x_r [] [0,1,2,3,9] [] [Zag false boxes,slI false list,I k,Bv high,I (at_x-1)] [] [inR .i64 (at_x-1)] ⟨(Zah om om),trivial⟩ (Zbt 1 ?_)
        exact Zcs (at_x-1) rfl (show (0≤(at_x-1)∧(at_x-1)≤(list.length:Int))∧(∀j:Nat,(at_x-1)≤(j:Int)→j<list.length→(if high=true then cH boxes else cL boxes) k (at_ list j)<0)∧True from ⟨om,(by intro j h1 h2;by_cases e:(j:Int)=at_x-1;(rw [show j=(at_x-1).toNat from by omega];(first|exact hcp|(rw [if_neg (show ¬ high=true from by rw [show high=false from by assumption];decide)];exact hq1)));exact hgt j om h2),trivial⟩) (by first|(show ((at_x-1).toNat:Nat)<at_x.toNat;omega)|(dsimp only;omega))
       have hcp:¬ (if high=true then cH boxes else cL boxes) k (at_ list (at_x-1).toNat)<0:=by rw [if_pos (by assumption)];exact of_decide_eq_false h4
       refine x_q [(7,.call [(true,.any),(true,.any),(true,.any)] true (Bv false))] [0,1,2,3,9,10] [] [inR .i64 (at_x-1),(0:Int)≤(at_x-1)∧(at_x-1)<(list.length:Int),Con Try.prog 82 [Zag false boxes,I k,I (at_ list ((at_x-1).toNat))] true (Bv false)∧True] ⟨(Zah om om),⟨om,om⟩,⟨(Zas h4 (Zha boxes k (at_ list ((at_x-1).toNat)) om (Zke hx om))),trivial⟩,trivial⟩ (Zad (Zau ?_))
       refine xR [] [0,1,2,3,9,34] [] [Zag false boxes,slI false list,I k,Bv high,I at_x,Bv true] [] [] trivial (Zfv rfl (Zdy (Zbd ?_)))
       refine Zgp rfl ?_
       refine Zbj ?_
       refine Zbe (Zad (Zau ?_))
       obtain ⟨out_1,hx1_0,hc1⟩:=Zhp (list.take at_x.toNat) (by simp only [List.length_take];omega)
       have hol_out_1:out_1.length=((list.take at_x.toNat)).length:=by rw [hx1_0]
       simp only [List.length_take,List.length_drop] at hol_out_1
       have howx:=hx1_0
       refine x_q [(3,.lend [] [(8201,tAI out_1)] [(false,slI false (list.take at_x.toNat))] false (.arr 8201)),(5,.new 42),(6,.new 43)] [1,9,11] [43] [(0:Int)≤0∧(0:Int)≤at_x∧at_x≤(list.length:Int),Zap Try.prog 40 [slI false (list.take at_x.toNat)] (Zac []) false (.arr 8201) (Zac [(8201,tAI out_1)])∧((false=true→false=true)∧1=1∧(at_x.toNat-0)=((list.take at_x.toNat).length)∧∀i_,i_<((list.take at_x.toNat).length)→(Zoi 0 (fI list)) i_=(fI (list.take at_x.toNat)) i_∨(AV.idsL ((fI (list.take at_x.toNat)) i_)=[]∧leL (fun _=>none) false ((Zoi 0 (fI list)) i_) ((fI (list.take at_x.toNat)) i_)))∧True,(out_1.length+1)*8≤140737488355328] ⟨⟨om,om,om⟩,⟨hc1,⟨(fun h=>by cases h),rfl,(by first|rfl|(simp;done)|(simp;omega)|omega),fun i_ hi_=> .inl (Zks (enc:=cI) hi_)⟩,trivial⟩,om,trivial⟩ (Zad ?_)
       refine xR [(4,.new 48)] [8] [48] [.arr 48] [some (.arr 1 ((out_1.length+1)+((list.length:Int).toNat-at_x.toNat)) (Zgd (out_1.length+1) (Zgd out_1.length (fI out_1) (Zfu [I k] 1)) (Zoi at_x.toNat (fI list))))] [(0:Int)≤at_x∧at_x≤(list.length:Int)∧(list.length:Int)≤(list.length:Int),((out_1.length+1)+((list.length:Int).toNat-at_x.toNat))*8≤140737488355328] ⟨⟨om,om,om⟩,om,trivial⟩ (Zcl ?_)
       refine Zdl [(8221,48)] (T:=[(8,.arr 8221)]) (O:=[(8221,tAI ((out_1++[k])++(list.drop at_x.toNat)))]) rfl (⟨.inl rfl,trivial⟩) (⟨.inr ⟨rfl,(by first|rfl|(simp;done)|(simp;omega)|omega),fun i_ hi_=> .inl (Zpj (enc:=cI) (xs:=(out_1++[k])) (ys:=(list.drop at_x.toNat)) (by first|rfl|(simp;done)|(simp;omega)) (fun i_ hi_=>(Zeg (enc:=cI) (xs:=out_1) rfl i_ hi_)) (fun i_ hi_=>(Zkt (enc:=cI) hi_)) i_ hi_)⟩,trivial⟩) ?_
       refine Zbs ((out_1++[k])++(list.drop at_x.toNat)) (show (((out_1++[k])++(list.drop at_x.toNat))=Znd (if high=true then cH boxes else cL boxes) list k)∧(True) from ⟨(by first|(rw [howx];unfold Znd;rw [Zkf (j:=at_x.toNat) (fun j h1 h2=>hgt j om h2) om (by first|exact Or.inl om|exact Or.inr (by rw [show at_x.toNat-1=(at_x-1).toNat from by omega];(first|exact hcp|(rw [if_neg (show ¬ high=true from by rw [show high=false from by assumption];decide)];exact hq1))))];simp [Zhz];done)),trivial⟩) (⟨.inl rfl,trivial⟩) (.arr 8221) (by kernel_rfl) (.inl rfl) (fun h=>by cases h) (fun h=>by cases h)
      refine Zde (congrArg Bv h3) ?_
      refine Zca (Zad (Zau ?_))
      refine xQ [] [0,1,2,3,9,34] [] [] trivial (Ziv (Zca (Zad ?_)))
      refine x_r [] [0,1,2,3,9] [] [Zag false boxes,slI false list,I k,Bv high,I (at_x-1)] [] [inR .i64 (at_x-1)] ⟨(Zah om om),trivial⟩ (Zbt 1 ?_)
      exact Zcs (at_x-1) rfl (show (0≤(at_x-1)∧(at_x-1)≤(list.length:Int))∧(∀j:Nat,(at_x-1)≤(j:Int)→j<list.length→(if high=true then cH boxes else cL boxes) k (at_ list j)<0)∧True from ⟨om,(by intro j h1 h2;by_cases e:(j:Int)=at_x-1;(rw [show j=(at_x-1).toNat from by omega];(first|exact hcp|(rw [if_neg (show ¬ high=true from by rw [show high=false from by assumption];decide)];exact hq1)));exact hgt j om h2),trivial⟩) (by first|(show ((at_x-1).toNat:Nat)<at_x.toNat;omega)|(dsimp only;omega))
     have hq1:¬ cL boxes k (at_ list (at_x-1).toNat)<0:=of_decide_eq_false h2
     refine x_q [(7,.call [(true,.any),(true,.any),(true,.any)] true (Bv false))] [0,1,2,3,9,10] [] [inR .i64 (at_x-1),(0:Int)≤(at_x-1)∧(at_x-1)<(list.length:Int),Con Try.prog 74 [Zag false boxes,I k,I (at_ list ((at_x-1).toNat))] true (Bv false)∧True] ⟨(Zah om om),⟨om,om⟩,⟨(Zas h2 (Zmj boxes k (at_ list ((at_x-1).toNat)) om (Zke hx om))),trivial⟩,trivial⟩ (Zad (Zau ?_))
     refine xR [] [0,1,2,3,9,10,24] [] [Zag false boxes,slI false list,I k,Bv high,I at_x,Bv false,Bv high] [] [] trivial ?_
     rcases Bool.eq_false_or_eq_true high with h5|h5
     ·refine Zfv (congrArg Bv h5) ?_
      rcases Bool.eq_false_or_eq_true (hghB boxes k (at_ list ((at_x-1).toNat))) with h6|h6
      ·have hcp:(if high=true then cH boxes else cL boxes) k (at_ list (at_x-1).toNat)<0:=by rw [if_pos (by assumption)];exact of_decide_eq_true h6
       refine x_q [(7,.call [(true,.any),(true,.any),(true,.any)] true (Bv true))] [0,1,2,3,9,10] [] [inR .i64 (at_x-1),(0:Int)≤(at_x-1)∧(at_x-1)<(list.length:Int),Con Try.prog 82 [Zag false boxes,I k,I (at_ list ((at_x-1).toNat))] true (Bv true)∧True] ⟨(Zah om om),⟨om,om⟩,⟨(Zas h6 (Zha boxes k (at_ list ((at_x-1).toNat)) om (Zke hx om))),trivial⟩,trivial⟩ (Zad (Zau ?_))
       refine xQ [] [0,1,2,3,9,34] [] [] trivial (Ziv (Zca (Zad ?_)))
       refine x_r [] [0,1,2,3,9] [] [Zag false boxes,slI false list,I k,Bv high,I (at_x-1)] [] [inR .i64 (at_x-1)] ⟨(Zah om om),trivial⟩ (Zbt 1 ?_)
       exact Zcs (at_x-1) rfl (show (0≤(at_x-1)∧(at_x-1)≤(list.length:Int))∧(∀j:Nat,(at_x-1)≤(j:Int)→j<list.length→(if high=true then cH boxes else cL boxes) k (at_ list j)<0)∧True from ⟨om,(by intro j h1 h2;by_cases e:(j:Int)=at_x-1;(rw [show j=(at_x-1).toNat from by omega];(first|exact hcp|(rw [if_neg (show ¬ high=true from by rw [show high=false from by assumption];decide)];exact hq1)));exact hgt j om h2),trivial⟩) (by first|(show ((at_x-1).toNat:Nat)<at_x.toNat;omega)|(dsimp only;omega))
      have hcp:¬ (if high=true then cH boxes else cL boxes) k (at_ list (at_x-1).toNat)<0:=by rw [if_pos (by assumption)];exact of_decide_eq_false h6
      refine x_q [(7,.call [(true,.any),(true,.any),(true,.any)] true (Bv false))] [0,1,2,3,9,10] [] [inR .i64 (at_x-1),(0:Int)≤(at_x-1)∧(at_x-1)<(list.length:Int),Con Try.prog 82 [Zag false boxes,I k,I (at_ list ((at_x-1).toNat))] true (Bv false)∧True] ⟨(Zah om om),⟨om,om⟩,⟨(Zas h6 (Zha boxes k (at_ list ((at_x-1).toNat)) om (Zke hx om))),trivial⟩,trivial⟩ (Zad (Zau ?_))
      refine xR [] [0,1,2,3,9,34] [] [Zag false boxes,slI false list,I k,Bv high,I at_x,Bv true] [] [] trivial (Zfv rfl (Zdy (Zbd ?_)))
      refine Zgp rfl ?_
      refine Zbj ?_
      refine Zbe (Zad (Zau ?_))
      obtain ⟨out_2,hx2_0,hc2⟩:=Zhp (list.take at_x.toNat) (by simp only [List.length_take];omega)
      have hol_out_2:out_2.length=((list.take at_x.toNat)).length:=by rw [hx2_0]
      simp only [List.length_take,List.length_drop] at hol_out_2
      have howx:=hx2_0
      refine x_q [(3,.lend [] [(8201,tAI out_2)] [(false,slI false (list.take at_x.toNat))] false (.arr 8201)),(5,.new 42),(6,.new 43)] [1,9,11] [43] [(0:Int)≤0∧(0:Int)≤at_x∧at_x≤(list.length:Int),Zap Try.prog 40 [slI false (list.take at_x.toNat)] (Zac []) false (.arr 8201) (Zac [(8201,tAI out_2)])∧((false=true→false=true)∧1=1∧(at_x.toNat-0)=((list.take at_x.toNat).length)∧∀i_,i_<((list.take at_x.toNat).length)→(Zoi 0 (fI list)) i_=(fI (list.take at_x.toNat)) i_∨(AV.idsL ((fI (list.take at_x.toNat)) i_)=[]∧leL (fun _=>none) false ((Zoi 0 (fI list)) i_) ((fI (list.take at_x.toNat)) i_)))∧True,(out_2.length+1)*8≤140737488355328] ⟨⟨om,om,om⟩,⟨hc2,⟨(fun h=>by cases h),rfl,(by first|rfl|(simp;done)|(simp;omega)|omega),fun i_ hi_=> .inl (Zks (enc:=cI) hi_)⟩,trivial⟩,om,trivial⟩ (Zad ?_)
      refine xR [(4,.new 48)] [8] [48] [.arr 48] [some (.arr 1 ((out_2.length+1)+((list.length:Int).toNat-at_x.toNat)) (Zgd (out_2.length+1) (Zgd out_2.length (fI out_2) (Zfu [I k] 1)) (Zoi at_x.toNat (fI list))))] [(0:Int)≤at_x∧at_x≤(list.length:Int)∧(list.length:Int)≤(list.length:Int),((out_2.length+1)+((list.length:Int).toNat-at_x.toNat))*8≤140737488355328] ⟨⟨om,om,om⟩,om,trivial⟩ (Zcl ?_)
      refine Zdl [(8221,48)] (T:=[(8,.arr 8221)]) (O:=[(8221,tAI ((out_2++[k])++(list.drop at_x.toNat)))]) rfl (⟨.inl rfl,trivial⟩) (⟨.inr ⟨rfl,(by first|rfl|(simp;done)|(simp;omega)|omega),fun i_ hi_=> .inl (Zpj (enc:=cI) (xs:=(out_2++[k])) (ys:=(list.drop at_x.toNat)) (by first|rfl|(simp;done)|(simp;omega)) (fun i_ hi_=>(Zeg (enc:=cI) (xs:=out_2) rfl i_ hi_)) (fun i_ hi_=>(Zkt (enc:=cI) hi_)) i_ hi_)⟩,trivial⟩) ?_
      refine Zbs ((out_2++[k])++(list.drop at_x.toNat)) (show (((out_2++[k])++(list.drop at_x.toNat))=Znd (if high=true then cH boxes else cL boxes) list k)∧(True) from ⟨(by first|(rw [howx];unfold Znd;rw [Zkf (j:=at_x.toNat) (fun j h1 h2=>hgt j om h2) om (by first|exact Or.inl om|exact Or.inr (by rw [show at_x.toNat-1=(at_x-1).toNat from by omega];(first|exact hcp|(rw [if_neg (show ¬ high=true from by rw [show high=false from by assumption];decide)];exact hq1))))];simp [Zhz];done)),trivial⟩) (⟨.inl rfl,trivial⟩) (.arr 8221) (by kernel_rfl) (.inl rfl) (fun h=>by cases h) (fun h=>by cases h)
     refine Zde (congrArg Bv h5) ?_
     refine Zca (Zad (Zau ?_))
     refine xR [] [0,1,2,3,9,34] [] [Zag false boxes,slI false list,I k,Bv high,I at_x,Bv true] [] [] trivial (Zfv rfl (Zdy (Zbd ?_)))
     refine Zgp rfl ?_
     refine Zbj ?_
     refine Zbe (Zad (Zau ?_))
     obtain ⟨out_3,hx3_0,hc3⟩:=Zhp (list.take at_x.toNat) (by simp only [List.length_take];omega)
     have hol_out_3:out_3.length=((list.take at_x.toNat)).length:=by rw [hx3_0]
     simp only [List.length_take,List.length_drop] at hol_out_3
     have howx:=hx3_0
     refine x_q [(3,.lend [] [(8201,tAI out_3)] [(false,slI false (list.take at_x.toNat))] false (.arr 8201)),(5,.new 42),(6,.new 43)] [1,9,11] [43] [(0:Int)≤0∧(0:Int)≤at_x∧at_x≤(list.length:Int),Zap Try.prog 40 [slI false (list.take at_x.toNat)] (Zac []) false (.arr 8201) (Zac [(8201,tAI out_3)])∧((false=true→false=true)∧1=1∧(at_x.toNat-0)=((list.take at_x.toNat).length)∧∀i_,i_<((list.take at_x.toNat).length)→(Zoi 0 (fI list)) i_=(fI (list.take at_x.toNat)) i_∨(AV.idsL ((fI (list.take at_x.toNat)) i_)=[]∧leL (fun _=>none) false ((Zoi 0 (fI list)) i_) ((fI (list.take at_x.toNat)) i_)))∧True,(out_3.length+1)*8≤140737488355328] ⟨⟨om,om,om⟩,⟨hc3,⟨(fun h=>by cases h),rfl,(by first|rfl|(simp;done)|(simp;omega)|omega),fun i_ hi_=> .inl (Zks (enc:=cI) hi_)⟩,trivial⟩,om,trivial⟩ (Zad ?_)
     refine xR [(4,.new 48)] [8] [48] [.arr 48] [some (.arr 1 ((out_3.length+1)+((list.length:Int).toNat-at_x.toNat)) (Zgd (out_3.length+1) (Zgd out_3.length (fI out_3) (Zfu [I k] 1)) (Zoi at_x.toNat (fI list))))] [(0:Int)≤at_x∧at_x≤(list.length:Int)∧(list.length:Int)≤(list.length:Int),((out_3.length+1)+((list.length:Int).toNat-at_x.toNat))*8≤140737488355328] ⟨⟨om,om,om⟩,om,trivial⟩ (Zcl ?_)
     refine Zdl [(8221,48)] (T:=[(8,.arr 8221)]) (O:=[(8221,tAI ((out_3++[k])++(list.drop at_x.toNat)))]) rfl (⟨.inl rfl,trivial⟩) (⟨.inr ⟨rfl,(by first|rfl|(simp;done)|(simp;omega)|omega),fun i_ hi_=> .inl (Zpj (enc:=cI) (xs:=(out_3++[k])) (ys:=(list.drop at_x.toNat)) (by first|rfl|(simp;done)|(simp;omega)) (fun i_ hi_=>(Zeg (enc:=cI) (xs:=out_3) rfl i_ hi_)) (fun i_ hi_=>(Zkt (enc:=cI) hi_)) i_ hi_)⟩,trivial⟩) ?_
     refine Zbs ((out_3++[k])++(list.drop at_x.toNat)) (show (((out_3++[k])++(list.drop at_x.toNat))=Znd (if high=true then cH boxes else cL boxes) list k)∧(True) from ⟨(by first|(rw [howx];unfold Znd;rw [Zkf (j:=at_x.toNat) (fun j h1 h2=>hgt j om h2) om (by first|exact Or.inl om|exact Or.inr (by rw [show at_x.toNat-1=(at_x-1).toNat from by omega];(first|exact hcp|(rw [if_neg (show ¬ high=true from by rw [show high=false from by assumption];decide)];exact hq1))))];simp [Zhz];done)),trivial⟩) (⟨.inl rfl,trivial⟩) (.arr 8221) (by kernel_rfl) (.inl rfl) (fun h=>by cases h) (fun h=>by cases h)
    refine x_r [(1,.dec false)] [0,1,2,3,9,15] [] [Zag false boxes,slI false list,I k,Bv high,I at_x,Bv false] [] [_] ⟨h1,trivial⟩ (Zad (Zde rfl (Zdy (Zbd ?_))))
    refine Zbj ?_
    refine Zbe (Zad (Zau ?_))
    obtain ⟨out_4,hx4_0,hc4⟩:=Zhp (list.take at_x.toNat) (by simp only [List.length_take];omega)
    have hol_out_4:out_4.length=((list.take at_x.toNat)).length:=by rw [hx4_0]
    simp only [List.length_take,List.length_drop] at hol_out_4
    have howx:=hx4_0
    refine x_q [(3,.lend [] [(8201,tAI out_4)] [(false,slI false (list.take at_x.toNat))] false (.arr 8201)),(5,.new 42),(6,.new 43)] [1,9,11] [43] [(0:Int)≤0∧(0:Int)≤at_x∧at_x≤(list.length:Int),Zap Try.prog 40 [slI false (list.take at_x.toNat)] (Zac []) false (.arr 8201) (Zac [(8201,tAI out_4)])∧((false=true→false=true)∧1=1∧(at_x.toNat-0)=((list.take at_x.toNat).length)∧∀i_,i_<((list.take at_x.toNat).length)→(Zoi 0 (fI list)) i_=(fI (list.take at_x.toNat)) i_∨(AV.idsL ((fI (list.take at_x.toNat)) i_)=[]∧leL (fun _=>none) false ((Zoi 0 (fI list)) i_) ((fI (list.take at_x.toNat)) i_)))∧True,(out_4.length+1)*8≤140737488355328] ⟨⟨om,om,om⟩,⟨hc4,⟨(fun h=>by cases h),rfl,(by first|rfl|(simp;done)|(simp;omega)|omega),fun i_ hi_=> .inl (Zks (enc:=cI) hi_)⟩,trivial⟩,om,trivial⟩ (Zad ?_)
    refine xR [(4,.new 48)] [8] [48] [.arr 48] [some (.arr 1 ((out_4.length+1)+((list.length:Int).toNat-at_x.toNat)) (Zgd (out_4.length+1) (Zgd out_4.length (fI out_4) (Zfu [I k] 1)) (Zoi at_x.toNat (fI list))))] [(0:Int)≤at_x∧at_x≤(list.length:Int)∧(list.length:Int)≤(list.length:Int),((out_4.length+1)+((list.length:Int).toNat-at_x.toNat))*8≤140737488355328] ⟨⟨om,om,om⟩,om,trivial⟩ (Zcl ?_)
    refine Zdl [(8221,48)] (T:=[(8,.arr 8221)]) (O:=[(8221,tAI ((out_4++[k])++(list.drop at_x.toNat)))]) rfl (⟨.inl rfl,trivial⟩) (⟨.inr ⟨rfl,(by first|rfl|(simp;done)|(simp;omega)|omega),fun i_ hi_=> .inl (Zpj (enc:=cI) (xs:=(out_4++[k])) (ys:=(list.drop at_x.toNat)) (by first|rfl|(simp;done)|(simp;omega)) (fun i_ hi_=>(Zeg (enc:=cI) (xs:=out_4) rfl i_ hi_)) (fun i_ hi_=>(Zkt (enc:=cI) hi_)) i_ hi_)⟩,trivial⟩) ?_
    refine Zbs ((out_4++[k])++(list.drop at_x.toNat)) (show (((out_4++[k])++(list.drop at_x.toNat))=Znd (if high=true then cH boxes else cL boxes) list k)∧(True) from ⟨(by first|(rw [howx];unfold Znd;rw [Zkf (j:=at_x.toNat) (fun j h1 h2=>hgt j om h2) om (by first|exact Or.inl om|exact Or.inr (by rw [show at_x.toNat-1=(at_x-1).toNat from by omega];(first|exact hcp|(rw [if_neg (show ¬ high=true from by rw [show high=false from by assumption];decide)];exact hq1))))];simp [Zhz];done)),trivial⟩) (⟨.inl rfl,trivial⟩) (.arr 8221) (by kernel_rfl) (.inl rfl) (fun h=>by cases h) (fun h=>by cases h)
  obtain ⟨out,⟨hh0,_⟩,hc⟩:=hh
  exact ⟨out,hh0,hc⟩
theorem Zmb (a:Int) (b:Int):Con Try.prog 70 [I a,I b] true (I (max a b)):=by
  refine Zcn (fn:=Try.f70) (nt:=10) Try.func70 rfl rfl rfl rfl (by simp [Zaf,Zaj]) fun B hB=> ?_
  refine aQ [] [0,1] [] [] hB trivial (Zae (Zae ?_))
  by_cases h1:b<a
  ·refine Zbm [(2,.dec true)] [0,1,7] [] [_] hB ⟨h1,trivial⟩ (Zab (Zbp ?_))
   refine aR [] [4] [] [I a] [] [] hB trivial (Zav (Zak ?_))
   refine Zat hB (I a) (by kernel_rfl) (.inl (by refine congrArg I ?_;omega)) rfl (fun _=>trivial)
  refine Zbm [(2,.dec false)] [0,1,7] [] [_] hB ⟨h1,trivial⟩ (Zab (Zbc (Zam (Zab ?_))))
  refine aR [] [4] [] [I b] [] [] hB trivial (Zav ?_)
  refine Zat hB (I b) (by kernel_rfl) (.inl (by refine congrArg I ?_;omega)) rfl (fun _=>trivial)
end Go.Proofs.Ytfafngbbaplknaa.Ax
