/-
  Of the claim's proof: LfS.
-/
import Derived.Test.YtofjpdgojoppbaaGreatDoorS15
set_option maxRecDepth 100000
set_option maxHeartbeats 16000000
set_option linter.unusedVariables false
set_option linter.unusedSimpArgs false
namespace Go.Proofs.YtofjpdgojoppbaaGreatDoor
open Go.RowKit
def zcf (f:List ClauseI):Bool:=f.all (fun c=>decide (c.pre.size≤100))&&decide (f.length≤24)
theorem zfq {f:List ClauseI}:zcf f=true↔zjn f∧f.length≤24:=by
 unfold zcf zjn;rw[Bool.and_eq_true,List.all_eq_true,decide_eq_true_eq];exact and_congr (forall_congr' fun c=>forall_congr' fun _=>decide_eq_true_iff) Iff.rfl
theorem zkt {f:List ClauseI} {k:Nat} (h:k<f.length) (ht:¬ f[k].pre.size≤100):zcf f=false:=by
 rw[Bool.eq_false_iff,Ne,zfq];rintro⟨h1,_⟩;exact ht (h1 _ (List.getElem_mem h))
theorem zlY (w:World) (v:Value) (f:List ClauseI) (h:Sl w 3 v (f.map ClauseI.cells)):Calls Tryz.prog 41 #[v] w (Ret (.bool (zcf f)) w):=by
 obtain⟨A,c,rfl,h1,h2,h3⟩:=zr h;unfold maxLen at h2;clear h;go_enter Tryz.func41,Tryz.ntmps41;go_wp2_with fail
 go_loopw [3] (fun i wr=>∃ k:Nat,k≤f.length∧i=.int .i64 k∧Ext w wr∧Hid (∀ j (hj:j<f.length),j<k→f[j].pre.size≤100)) (fun i _=>f.length-(intOf i).toNat)
 case atStart=>exact⟨0,by omega,rfl,Ext.refl _,fun j _ hj=>by omega⟩
 case round=>
  obtain⟨k,hk,rfl,hE,hno⟩:=hrel;have HE:=hid hE;by_cases hlt:k<f.length
  ·obtain⟨b,o,rfl,lb,hcell⟩:=h3 (by omega)
   have c0:=hE.cell (hcell k hlt 0 _ rfl);have c1:=hE.cell (hcell k hlt 1 _ rfl);have c2:=hE.cell (hcell k hlt 2 _ rfl);rw[Nat.add_zero] at c0;have lbr:=Nat.lt_of_lt_of_le lb hE.size;have HF:Hid (¬ f[k].pre.size≤100→zcf f=false):=fun e=>zkt hlt e;have HNx:Hid (f[k].pre.size≤100 → ∀ j (hj:j<f.length),j<k+1→f[j].pre.size≤100):=fun e j hj hjk=>by
    by_cases hjk':j=k
    ·subst hjk';exact e
    ·exact hno.out j hj (by omega)
   clear hcell h3 hE hno;generalize f[k]=x at *;by_cases hp:x.pre.size≤100
   ·have d0:decide ((100:Int)<x.pre.size)=false:=by simp;omega
    have HNx:=hid (HNx.out hp);clear HF hp;go_wp2_with fail
    go_roundw
    case rel=>exact⟨k+1,by omega,by go_num,HE.out,HNx.out⟩
    case measure=>simp[intOf];omega
   ·have d0:decide ((100:Int)<x.pre.size)=true:=by simp;omega
    have HF:=hid (HF.out hp);clear HNx hp;go_wp2_with fail
    go_ret;exact⟨by rw[HF.out];rfl,HE.out⟩
  ·obtain rfl:k=f.length:=by omega
   have hall:zjn f:=fun c hc=>by
    obtain⟨j,hj,rfl⟩:=List.getElem_of_mem hc;exact hno.out j hj hj
   have HB:Hid (zcf f=decide (f.length≤24)):=by
    unfold Hid;rw[Bool.eq_iff_iff,zfq,decide_eq_true_eq];exact⟨fun h=>h.2,fun h=>⟨hall,h⟩⟩
   clear hE h3 hno hall;by_cases hl:f.length≤24
   ·have d1:decide ((f.length:Int)≤24)=true:=by simp;omega
    have HB:Hid (zcf f=true):=by rw[HB.out];exact decide_eq_true hl
    clear hl;go_wp2_with fail
    go_ret;exact⟨by rw[HB.out];rfl,HE.out⟩
   ·have d1:decide ((f.length:Int)≤24)=false:=by simp;omega
    have HB:Hid (zcf f=false):=by rw[HB.out];exact decide_eq_false hl
    clear hl;go_wp2_with fail
    go_ret;exact⟨by rw[HB.out];rfl,HE.out⟩
end Go.Proofs.YtofjpdgojoppbaaGreatDoor
