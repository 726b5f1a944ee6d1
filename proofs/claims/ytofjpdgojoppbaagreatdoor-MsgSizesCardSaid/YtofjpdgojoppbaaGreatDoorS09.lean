/-
  Of the claim's proof: PcJ.
-/
import Derived.Lib.SplitLaws
import Derived.Lib.Join
import Derived.Test.YtofjpdgojoppbaaGreatDoorS01
set_option maxRecDepth 100000
set_option maxHeartbeats 16000000
set_option linter.unusedVariables false
set_option linter.unusedSimpArgs false
namespace Go.Proofs.YtofjpdgojoppbaaGreatDoor
end Go.Proofs.YtofjpdgojoppbaaGreatDoor
namespace Go.Proofs.YtofjpdgojoppbaaGreatDoor.Pa
open Go.RowKit
def sp:List UInt8→List (List UInt8)
 | []=>[[]]
 | b::t=>if b=47 then []::sp t else(b::(sp t).headD [])::(sp t).tail
theorem sp_ne (l:List UInt8):sp l≠[]:=by
 cases l with
 | nil=>simp[sp]
 | cons b t=>unfold sp;split <;> simp
theorem sp_head (l:List UInt8):sp l=(sp l).headD []::(sp l).tail:=by
 have:=sp_ne l;cases h:sp l with
 | nil=>exact absurd h this
 | cons x r=>rfl
theorem sp_app:∀ (a t:List UInt8),(∀ x∈a,x≠47)→sp (a++47::t)=a::sp t
 | [],t,_=>by simp[sp]
 | b::a,t,h=>by
  have hb:=h b (by simp);have ih:=sp_app a t fun x hx=>h x (by simp[hx])
  show sp (b::(a++47::t))=_
  rw[sp,if_neg hb,ih];rfl
theorem sp_none:∀ (a:List UInt8),(∀ x∈a,x≠47)→sp a=[a]
 | [],_=>rfl
 | b::a,h=>by
  have hb:=h b (by simp);have ih:=sp_none a fun x hx=>h x (by simp[hx]);rw[sp,if_neg hb,ih];rfl
theorem splitK_cons (b:UInt8) (hb:b≠47) (l:List UInt8) (k:Nat):Lib.splitK [47] 0 k (b::l)=(b::(Lib.splitK [47] 0 k l).headD [])::(Lib.splitK [47] 0 k l).tail:=by
 cases k with
 | zero=>rfl
 | succ k=>
  have hp:([47]:List UInt8).isPrefixOf (b::l)=false:=by simp[List.isPrefixOf,Ne.symm hb]
  have hix:Lib.index (b::l) [47]=if Lib.index l [47] == -1 then -1 else Lib.index l [47]+1:=by rw[Lib.index,hp];simp
  unfold Lib.splitK;by_cases hm:Lib.index l [47] = -1
  ·rw[hix,hm];simp
  ·have hge:=Lib.index_ge l [47]
   have h1:(Lib.index l [47] == -1)=false:=by simpa using hm
   have h2:(Lib.index l [47]+1 == -1)=false:=by simp;omega
   rw[hix,h1];simp only[Bool.false_eq_true,if_false,h2];have e:(Lib.index l [47]+1).toNat=(Lib.index l [47]).toNat+1:=by omega
   rw[e];simp[Nat.add_right_comm _ 1]
theorem split_sp (l:List UInt8):Lib.split l [47]=sp l:=by
 unfold Lib.split
 induction l with
 | nil=>rfl
 | cons b t ih=>
  by_cases hb:b=47
  ·subst hb
   rw[Lib.count_cons_eq,sp,if_pos rfl,←ih,Nat.add_comm 1];have hix:Lib.index (47::t) [47]=((0:Nat):Int):=by rw[Lib.index];simp[List.isPrefixOf]
   rw[Lib.splitK,hix];simp
  ·rw[Lib.count_cons_ne b 47 t hb,splitK_cons b hb,sp,if_neg hb,ih]
def mk (l:List UInt8):ByteArray:=⟨l.toArray⟩
theorem mk_toList (l:List UInt8):(mk l).toList=l:=by rw[Lib.toList_data];rfl
theorem mk_of (s:ByteArray):mk s.toList=s:=ze0 (mk_toList _)
def spB (s:ByteArray):List ByteArray:=(sp s.toList).map mk
theorem spB_eq {s:ByteArray} {l:List ByteArray} (h:l.map ByteArray.toList=sp s.toList):l=spB s:=by
 unfold spB;rw[←h,List.map_map]
 conv=>lhs;rw[←List.map_id l]
 congr 1
 funext x
 exact(mk_of x).symm
theorem splitB_spB (s:ByteArray):Lib.splitB ⟨#[47]⟩ 0 (Lib.countB s ⟨#[47]⟩) s=spB s:=by
 refine spB_eq ?_;have h:=Lib.splitB_data ⟨#[47]⟩ 0 (Lib.countB s ⟨#[47]⟩) s;have h2:=split_sp s.data.toList;have e:(ByteArray.toList:ByteArray→List UInt8)=fun x=>x.data.toList:=funext Lib.toList_data;rw[e];exact h.trans h2
theorem countB_spB (s:ByteArray):Lib.countB s ⟨#[47]⟩+1=(spB s).length:=by
 rw[←splitB_spB];exact(Lib.splitB_all ⟨#[47]⟩ (by show 1≤1;omega) 0 _ s rfl).symm
theorem sp_length (l:List UInt8):(sp l).length≤l.length+1:=by
 induction l with
 | nil=>simp[sp]
 | cons b t ih=>
  unfold sp
  split
  ·simp;exact ih
  ·have:=sp_ne t
   simp only[List.length_cons,List.length_tail];omega
theorem spB_length (s:ByteArray):(spB s).length≤s.size+1:=by
 unfold spB;rw[List.length_map,←zQ];exact sp_length _
theorem sp_parts (l:List UInt8):∀ x∈sp l,x.length≤l.length:=by
 induction l with
 | nil=>simp[sp]
 | cons b t ih=>
  unfold sp
  split
  ·intro x hx
   rcases List.mem_cons.1 hx with rfl | hx
   ·simp
   ·have:=ih x hx;simp;omega
  ·intro x hx
   rcases List.mem_cons.1 hx with rfl | hx
   ·have:=ih ((sp t).headD []) (by rw[sp_head t];simp)
    simp only[List.length_cons];omega
   ·have:=ih x (List.mem_of_mem_tail hx)
    simp;omega
theorem spB_parts (s:ByteArray):∀ x∈spB s,x.size≤s.size:=by
 intro x hx;obtain⟨l,hl,rfl⟩:=List.mem_map.1 hx;have:=sp_parts _ l hl;rw[←zQ,mk_toList,←zQ];exact this
end Go.Proofs.YtofjpdgojoppbaaGreatDoor.Pa
namespace Go.Proofs.YtofjpdgojoppbaaGreatDoor
end Go.Proofs.YtofjpdgojoppbaaGreatDoor
