/-
  Of the claim's proof: KnD.
-/
import Derived.Test.YtofjpdgojoppbaaGreatDoorS04
import Derived.Test.YtofjpdgojoppbaaGreatDoorS08
import Derived.Test.YtofjpdgojoppbaaGreatDoorS15
import Derived.Test.YtofjpdgojoppbaaGreatDoorS21
set_option maxRecDepth 100000
set_option maxHeartbeats 16000000
set_option linter.unusedVariables false
set_option linter.unusedSimpArgs false
namespace Go.Proofs.YtofjpdgojoppbaaGreatDoor
open Go.RowKit
theorem zgC {α:Type} {p:α→Bool} {f:List α} {k:Nat} (h:k<f.length) (h1:(f.take k).all p=true) (h2:p f[k]=true):(f.take (k+1)).all p=true:=by
 rw[List.take_succ_eq_append_getElem h,List.all_append,h1];simp[h2]
theorem zin {α:Type} {p:α→Bool} {f:List α} {k:Nat} (h:k<f.length) (h2:p f[k]=false):f.all p=false:=by
 rw[List.all_eq_false];exact⟨f[k],List.getElem_mem h,by simp[h2]⟩
def mayF (x:FragI):Bool:=zH x.f&&(decide (x.v=cleanL x.v)&&itemsB x.n)
def mayN (x:KnownI):Bool:=zD x.i&&decide (x.v=cleanL x.v)
def mayB (k:KnowI):Bool:=k.fs.all mayF&&(k.ks.all mayN&&(decide (k.fs.length≤64)&&decide (k.ks.length≤4096)))
def zaR (x:FragI):ByteArray:=zO (zg clB x.f)++zO (zg verB (endsL x.v))++zO (zg verB x.n)
def zan (x:KnownI):ByteArray:=verB x.i++zO (zg verB (endsL x.v))
def zaj (k:KnowI):ByteArray:=zO (zg zaR k.fs)++zO (zg zan k.ks)
def zl8 (x:FragI):Prop:=(∀ c∈x.f,c.pre.size≤90000)∧x.n.length≤90000
attribute [-simp] Tryz.isAgg33 Tryz.sizeOf33
end Go.Proofs.YtofjpdgojoppbaaGreatDoor
