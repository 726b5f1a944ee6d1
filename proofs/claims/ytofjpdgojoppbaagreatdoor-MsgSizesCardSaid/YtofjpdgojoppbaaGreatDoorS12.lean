/-
  Of the claim's proof: Shelf, PcB, PcC, PcK, PcL, PcM, UqH, CdA.
-/
import Derived.Shelf.LaysM
import Derived.Shelf.Strings.Split
import Derived.Test.YtofjpdgojoppbaaGreatDoorProg
import Derived.Laws.RangeString
import Derived.Lib.BufferKept
import Derived.Lib.SpaceUEq
import Derived.Deep.AppendLies
import Derived.Test.YtofjpdgojoppbaaGreatDoorTie
import Derived.Test.YtofjpdgojoppbaaGreatDoorCards
import Derived.ProofKit
import Derived.HandedShaped
import Derived.ChangeMaps5
import Derived.OpenShut
import Derived.LaidMore
import Derived.Lay
import Derived.SevenTiedAt
import Derived.Stop.Joined
import Derived.Test.YtofjpdgojoppbaaGreatDoorS01
import Derived.Test.YtofjpdgojoppbaaGreatDoorS04
import Derived.Test.YtofjpdgojoppbaaGreatDoorS09
import Derived.Test.YtofjpdgojoppbaaGreatDoorS10
import Derived.Test.YtofjpdgojoppbaaGreatDoorS11
set_option maxRecDepth 100000
set_option maxHeartbeats 16000000
set_option linter.unusedVariables false
set_option linter.unusedSimpArgs false
namespace Go.Proofs.YtofjpdgojoppbaaGreatDoor
section
open Go Go.Proofs Go.Shelf
def Tryz.lays146_ren:Go.Shelf.Ren:=⟨fun | 146=>181 | 221=>187 | 268=>193 | 138=>194 | 143=>195 | 195=>207 | 197=>208 | 218=>209 | 219=>210 | 260=>216 | 217=>217 | 225=>218 | 224=>219 | 267=>220 | 266=>222 | 314=>223 | n=>n,fun | 9=>9 | 31=>154 | 3=>3 | 4=>4 | 0=>0 | 105=>249 | 21=>21 | 5=>5 | 46=>190 | 119=>262 | 139=>265 | 138=>264 | 146=>266 | 51=>220 | n=>n,fun | 1=>0 | 3=>1 | 4=>2 | n=>n⟩
theorem Tryz.lays146:Go.Proofs.Lays.n146 Tryz.prog Tryz.lays146_ren:={
 mixed:=by kernel_rfl
 f138:=Tryz.func194.trans (congrArg some (by kernel_rfl))
 f143:=Tryz.func195.trans (congrArg some (by kernel_rfl))
 f146:=Tryz.func181.trans (congrArg some (by kernel_rfl))
 f195:=Tryz.func207.trans (congrArg some (by kernel_rfl))
 f197:=Tryz.func208.trans (congrArg some (by kernel_rfl))
 f217:=Tryz.func217.trans (congrArg some (by kernel_rfl))
 f218:=Tryz.func209.trans (congrArg some (by kernel_rfl))
 f219:=Tryz.func210.trans (congrArg some (by kernel_rfl))
 f221:=Tryz.func187.trans (congrArg some (by kernel_rfl))
 f224:=Tryz.func219.trans (congrArg some (by kernel_rfl))
 f225:=Tryz.func218.trans (congrArg some (by kernel_rfl))
 f260:=Tryz.func216.trans (congrArg some (by kernel_rfl))
 f266:=Tryz.func222.trans (congrArg some (by kernel_rfl))
 f267:=Tryz.func220.trans (congrArg some (by kernel_rfl))
 f268:=Tryz.func193.trans (congrArg some (by kernel_rfl))
 f314:=Tryz.func223.trans (congrArg some (by kernel_rfl))
 t0:=Tryz.underlying0
 a0:=Tryz.isAgg0
 z0:=Tryz.sizeOf0
 v0:=Tryz.zeroValue0
 t3:=Tryz.underlying3
 a3:=Tryz.isAgg3
 z3:=Tryz.sizeOf3
 v3:=Tryz.zeroValue3
 t4:=Tryz.underlying4
 a4:=Tryz.isAgg4
 z4:=Tryz.sizeOf4
 v4:=Tryz.zeroValue4
 t5:=Tryz.underlying5
 a5:=Tryz.isAgg5
 z5:=Tryz.sizeOf5
 v5:=Tryz.zeroValue5
 t9:=Tryz.underlying9
 a9:=Tryz.isAgg9
 z9:=Tryz.sizeOf9
 v9:=Tryz.zeroValue9
 t21:=Tryz.underlying21
 a21:=Tryz.isAgg21
 z21:=Tryz.sizeOf21
 v21:=Tryz.zeroValue21
 t31:=Tryz.underlying154
 a31:=Tryz.isAgg154
 z31:=Tryz.sizeOf154
 v31:=Tryz.zeroValue154
 t46:=Tryz.underlying190
 a46:=Tryz.isAgg190
 z46:=Tryz.sizeOf190
 v46:=Tryz.zeroValue190
 t51:=Tryz.underlying220
 a51:=Tryz.isAgg220
 z51:=Tryz.sizeOf220
 v51:=Tryz.zeroValue220
 t105:=Tryz.underlying249
 a105:=Tryz.isAgg249
 z105:=Tryz.sizeOf249
 v105:=Tryz.zeroValue249
 t119:=Tryz.underlying262
 a119:=Tryz.isAgg262
 z119:=Tryz.sizeOf262
 t138:=Tryz.underlying264
 a138:=Tryz.isAgg264
 z138:=Tryz.sizeOf264
 v138:=Tryz.zeroValue264
 t139:=Tryz.underlying265
 a139:=Tryz.isAgg265
 z139:=Tryz.sizeOf265
 v139:=Tryz.zeroValue265
 t146:=Tryz.underlying266
 a146:=Tryz.isAgg266
 z146:=Tryz.sizeOf266
 v146:=Tryz.zeroValue266
 g1:=by kernel_rfl
 g3:=by kernel_rfl
 g4:=by kernel_rfl }
open Go.RowKit Go.Lib in
theorem Tryz.strings_Split (s sep:ByteArray) (m:Int) (w:World) (hs:s.size<4294967281) (hm:w.cell? ⟨0,0,none⟩=some (.int .i64 m)) (h1:1≤sep.size) :
  Calls Tryz.prog 181 #[.string s,.string sep] w fun e w'=>
   e=.returned (.slice (some ⟨w.heap.size,0,none⟩) (Lib.countB s sep+1) (Lib.countB s sep+1))∧w'=w.alloc (.cells ((Lib.splitB sep 0 (Lib.countB s sep) s).map Value.string).toArray 9):=Any.strings_Split Tryz.lays146 (by kernel_rfl) s sep m w hs hm h1
end
end Go.Proofs.YtofjpdgojoppbaaGreatDoor
namespace Go.Proofs.YtofjpdgojoppbaaGreatDoor.Pa
open Go.RowKit
def letterK (z:Int):Bool:=decide (97≤z)&&decide (z≤122)||(decide (48≤z)&&decide (z≤57))||z==46||z==45||z==95
theorem letter_c (z:Int) (w:World):Calls Tryz.prog 188 #[.int .i32 z] w (fun e w'=>e=.returned (.bool (letterK z))∧w=w'):=by
 go_enter Tryz.func188,Tryz.ntmps188;go_wp2
 all_goals go_ret
 all_goals refine⟨?_,rfl⟩
 all_goals (try simp_all[letterK])
 all_goals (try rw[show decide (97≤z)=false by simp;omega])
 all_goals (try rw[show decide (48≤z)=false by simp;omega])
 all_goals (try simp)
def lb (b:UInt8):Bool:=letterK b.toNat
def nameK (s:ByteArray):Bool:=!s.toList.isEmpty&&decide (s.size≤12)&&s.toList.all lb && !(s.toList.all fun b=>b==46)
theorem take_succ_all (s:ByteArray) (k:Nat) (h:k<s.size) (p:UInt8→Bool):(s.toList.take (k+1)).all p=((s.toList.take k).all p&&p s[k]):=by
 have hl:k<s.toList.length:=by rw[zQ];exact h
 have e:s.toList[k]=s[k]:=by
  have:=zcO s k h;rw[List.getElem?_eq_getElem hl] at this;injection this
 rw[List.take_succ_eq_append_getElem hl,List.all_append,e];simp
theorem all_false_of {s:ByteArray} {k:Nat} (h:k<s.size) {p:UInt8→Bool} (hp:p s[k]=false):s.toList.all p=false:=by
 have hg:=zcO s k h;rw[List.all_eq_false];exact⟨s[k],List.mem_of_getElem? hg,by rw[hp];simp⟩
end Go.Proofs.YtofjpdgojoppbaaGreatDoor.Pa
namespace Go.Proofs.YtofjpdgojoppbaaGreatDoor
end Go.Proofs.YtofjpdgojoppbaaGreatDoor
namespace Go.Proofs.YtofjpdgojoppbaaGreatDoor.Pa
open Go.RowKit
theorem strs_flat (l:List ByteArray):(Strs l).flatten=l.map Value.string:=by
 induction l with
 | nil=>rfl
 | cons x l ih=>
  have e:(Strs (x::l)).flatten=.string x::(Strs l).flatten:=rfl;rw[e,ih];rfl
end Go.Proofs.YtofjpdgojoppbaaGreatDoor.Pa
namespace Go.Proofs.YtofjpdgojoppbaaGreatDoor
end Go.Proofs.YtofjpdgojoppbaaGreatDoor
namespace Go.Proofs.YtofjpdgojoppbaaGreatDoor.Pa
open Go.RowKit
theorem decode_big (s:ByteArray) (k:Nat) (h:k<s.size) (hb:¬ (s[k]'h).toNat<128):128≤(Utf8.decode s k).1:=by
 have e:s.get! k=s[k]'h:=by
  simp[ByteArray.get!,getElem!_pos,h];rfl
 rw[Lib.decode_at,e];rcases Lib.decodeN_cases (s.size-k) (s[k]'h).toNat (s.get! (k+1)).toNat (s.get! (k+2)).toNat (s.get! (k+3)).toNat with⟨c,_⟩ | ⟨_,_,_,c,e⟩ | ⟨_,_,_,_,c,e⟩ | ⟨c,_⟩ | e
 ·exact absurd c hb
 ·rw[e];exact c
 ·rw[e];dsimp only;omega
 ·omega
 ·rw[e];dsimp only;omega
theorem letterK_big {z:Int} (h:128≤z):letterK z=false:=by
 unfold letterK;rw[show decide (z≤122)=false by simp;omega,show decide (z≤57)=false by simp;omega,show(z==46)=false by simp;omega,show(z==45)=false by simp;omega,show(z==95)=false by simp;omega];simp
theorem lb_big {b:UInt8} (h:¬ b.toNat<128):lb b=false:=letterK_big (by omega)
theorem name_any (s:ByteArray) (w:World) (hs:s.size≤100000):Calls Tryz.prog 183 #[.string s] w (Ret (.bool (nameK s)) w):=by
 have HK:Hid (nameK s=(!s.toList.isEmpty&&decide (s.size≤12)&&s.toList.all lb && !(s.toList.all fun b=>b==46))):=rfl;generalize nameK s=z at HK;have HBrk:Hid (s.toList.all lb=false→z=false):=fun h=>by rw[HK.out,h];simp
 cases he:s.toList.isEmpty with
 | true=>
  have HEnd:Hid (∀ dk,s.toList.all lb=true→(s.toList.all fun b=>b==46)=dk→z=(false && !dk)):=fun dk h1 h2=>by rw[HK.out,h1,h2,he];simp
  clear HK;go_enter Tryz.func183,Tryz.ntmps183;go_wp2_with fail
  go_step3
  go_wp2_with fail
  go_step3
  go_wp2_with fail
  go_loopw [3,4] (fun r d wr=>∃ k:Nat,k≤s.size∧wr=w.iter s k∧r=.bool false∧d=.bool ((s.toList.take k).all fun b=>b==46)∧(s.toList.take k).all lb=true) (fun _ _ wr=>s.size-wr.iterPos w.heap.size)
  case atStart=>exact⟨0,by omega,rfl,rfl,rfl,rfl⟩
  case round=>
   obtain⟨k,hk,rfl,rfl,rfl,hl⟩:=hrel;by_cases hlt:k<s.size
   ·have HBad:Hid (lb (s[k]'hlt)=false→s.toList.all lb=false):=fun h=>all_false_of hlt h
    by_cases h128:(s[k]'hlt).toNat<128
    ·have hnx:=fun ty=>run_next_ascii (P:=Tryz.prog) w s k ty hlt h128
     have HS1:=hid (take_succ_all s k hlt lb);have HS2:=hid (take_succ_all s k hlt fun b=>b==46);have hcast:Hid (((s[k]'hlt)==46)=(((s[k]'hlt).toNat:Int)==46)):=by
      unfold Hid;rw[Bool.eq_iff_iff,beq_iff_eq,beq_iff_eq]
      constructor
      ·intro h;rw[h];rfl
      ·intro h
       have h5:(s[k]'hlt).toNat=46:=by omega
       exact UInt8.toNat_inj.1 h5
     have HL:=hid hl;clear hl;cases hd:(s.toList.take k).all (fun b=>b==46) with
     | true=>
      rw[hd] at HS2;clear hd;cases hlb:letterK ((s[k]'hlt).toNat:Int) with
      | true=>
       go_wp2_with (go_at_call 188;refine(letter_c _ _).mono ?_;rintro e w' ⟨rfl,rfl⟩)
       exact⟨⟨k+1,by omega,rfl,rfl,by rw[HS2.out,hcast.out];simp,by rw[HS1.out,HL.out];exact hlb⟩,by simp[World.iterPos,World.iter_heap];omega⟩
      | false=>
       obtain rfl:=HBrk.out (HBad.out hlb);go_wp2_with (go_at_call 188;refine(letter_c _ _).mono ?_;rintro e w' ⟨rfl,rfl⟩)
       rw[Exit.noGoto_ret];go_ret;exact⟨rfl,Ext.alloc _ _⟩
     | false=>
      rw[hd] at HS2;clear hd;cases hlb:letterK ((s[k]'hlt).toNat:Int) with
      | true=>
       go_wp2_with (go_at_call 188;refine(letter_c _ _).mono ?_;rintro e w' ⟨rfl,rfl⟩)
       exact⟨⟨k+1,by omega,rfl,rfl,by rw[HS2.out];simp,by rw[HS1.out,HL.out];exact hlb⟩,by simp[World.iterPos,World.iter_heap];omega⟩
      | false=>
       obtain rfl:=HBrk.out (HBad.out hlb);go_wp2_with (go_at_call 188;refine(letter_c _ _).mono ?_;rintro e w' ⟨rfl,rfl⟩)
       rw[Exit.noGoto_ret];go_ret;exact⟨rfl,Ext.alloc _ _⟩
    ·obtain rfl:=HBrk.out (HBad.out (lb_big h128))
     obtain⟨z,d,hzl,hnz⟩:∃ (z:Int) (d:Nat),letterK z=false ∧ ∀ ty,(Instr.next (.pointer (some ⟨w.heap.size,0,none⟩)) true ty).run Tryz.prog (w.iter s k)=.ok (.tuple #[.bool true,.int .i64 k,.int .i32 z]) (w.iter s d):=by
      refine⟨((Utf8.decode s k).1:Int),k+(Utf8.decode s k).2,letterK_big (by have:=decode_big s k hlt h128;omega),fun ty=>?_⟩;rw[Lib.run_next_any_at (P:=Tryz.prog) (w.iter s k) w.heap.size s k ty (World.iter_heap w s k) hlt]
      congr 1
      exact World.iter_set w s k _
     clear h128 HBad hl;generalize (s.toList.take k).all (fun b=>b==46)=dd;go_wp2_with (go_at_call 188;refine(letter_c _ _).mono ?_;rintro e w' ⟨rfl,rfl⟩)
     rw[Exit.noGoto_ret];go_ret;exact⟨rfl,Ext.alloc _ _⟩
   ·obtain rfl:k=s.size:=by omega
    have hnx:=fun ty=>run_next_end (P:=Tryz.prog) w s s.size ty (by omega);have htk:s.toList.take s.size=s.toList:=List.take_of_length_le (by rw[zQ];omega);rw[htk] at hl⊢;cases hd:s.toList.all (fun b=>b==46) with
    | true=>
     obtain rfl:=HEnd.out true hl hd;clear hd hl;go_wp2_with fail
     rw[Exit.noGoto_ret];go_ret;exact⟨rfl,Ext.alloc _ _⟩
    | false=>
     obtain rfl:=HEnd.out false hl hd;clear hd hl;go_wp2_with fail
     rw[Exit.noGoto_ret];go_ret;exact⟨rfl,Ext.alloc _ _⟩
 | false=>
  by_cases h12:s.size≤12
  ·have d12:decide ((s.size:Int)≤12)=true:=by simp;omega
   have HEnd:Hid (∀ dk,s.toList.all lb=true→(s.toList.all fun b=>b==46)=dk→z=(true && !dk)):=fun dk h1 h2=>by rw[HK.out,h1,h2,he,decide_eq_true h12];simp
   clear HK h12;go_enter Tryz.func183,Tryz.ntmps183;go_wp2_with fail
   go_step3
   go_wp2_with fail
   go_step3
   go_wp2_with fail
   go_loopw [3,4] (fun r d wr=>∃ k:Nat,k≤s.size∧wr=w.iter s k∧r=.bool true∧d=.bool ((s.toList.take k).all fun b=>b==46)∧(s.toList.take k).all lb=true) (fun _ _ wr=>s.size-wr.iterPos w.heap.size)
   case atStart=>exact⟨0,by omega,rfl,rfl,rfl,rfl⟩
   case round=>
    obtain⟨k,hk,rfl,rfl,rfl,hl⟩:=hrel;by_cases hlt:k<s.size
    ·have HBad:Hid (lb (s[k]'hlt)=false→s.toList.all lb=false):=fun h=>all_false_of hlt h
     by_cases h128:(s[k]'hlt).toNat<128
     ·have hnx:=fun ty=>run_next_ascii (P:=Tryz.prog) w s k ty hlt h128
      have HS1:=hid (take_succ_all s k hlt lb);have HS2:=hid (take_succ_all s k hlt fun b=>b==46);have hcast:Hid (((s[k]'hlt)==46)=(((s[k]'hlt).toNat:Int)==46)):=by
       unfold Hid;rw[Bool.eq_iff_iff,beq_iff_eq,beq_iff_eq]
       constructor
       ·intro h;rw[h];rfl
       ·intro h
        have h5:(s[k]'hlt).toNat=46:=by omega
        exact UInt8.toNat_inj.1 h5
      have HL:=hid hl;clear hl;cases hd:(s.toList.take k).all (fun b=>b==46) with
      | true=>
       rw[hd] at HS2;clear hd;cases hlb:letterK ((s[k]'hlt).toNat:Int) with
       | true=>
        go_wp2_with (go_at_call 188;refine(letter_c _ _).mono ?_;rintro e w' ⟨rfl,rfl⟩)
        exact⟨⟨k+1,by omega,rfl,rfl,by rw[HS2.out,hcast.out];simp,by rw[HS1.out,HL.out];exact hlb⟩,by simp[World.iterPos,World.iter_heap];omega⟩
       | false=>
        obtain rfl:=HBrk.out (HBad.out hlb);go_wp2_with (go_at_call 188;refine(letter_c _ _).mono ?_;rintro e w' ⟨rfl,rfl⟩)
        rw[Exit.noGoto_ret];go_ret;exact⟨rfl,Ext.alloc _ _⟩
      | false=>
       rw[hd] at HS2;clear hd;cases hlb:letterK ((s[k]'hlt).toNat:Int) with
       | true=>
        go_wp2_with (go_at_call 188;refine(letter_c _ _).mono ?_;rintro e w' ⟨rfl,rfl⟩)
        exact⟨⟨k+1,by omega,rfl,rfl,by rw[HS2.out];simp,by rw[HS1.out,HL.out];exact hlb⟩,by simp[World.iterPos,World.iter_heap];omega⟩
       | false=>
        obtain rfl:=HBrk.out (HBad.out hlb);go_wp2_with (go_at_call 188;refine(letter_c _ _).mono ?_;rintro e w' ⟨rfl,rfl⟩)
        rw[Exit.noGoto_ret];go_ret;exact⟨rfl,Ext.alloc _ _⟩
     ·obtain rfl:=HBrk.out (HBad.out (lb_big h128))
      obtain⟨z,d,hzl,hnz⟩:∃ (z:Int) (d:Nat),letterK z=false ∧ ∀ ty,(Instr.next (.pointer (some ⟨w.heap.size,0,none⟩)) true ty).run Tryz.prog (w.iter s k)=.ok (.tuple #[.bool true,.int .i64 k,.int .i32 z]) (w.iter s d):=by
       refine⟨((Utf8.decode s k).1:Int),k+(Utf8.decode s k).2,letterK_big (by have:=decode_big s k hlt h128;omega),fun ty=>?_⟩;rw[Lib.run_next_any_at (P:=Tryz.prog) (w.iter s k) w.heap.size s k ty (World.iter_heap w s k) hlt]
       congr 1
       exact World.iter_set w s k _
      clear h128 HBad hl;generalize (s.toList.take k).all (fun b=>b==46)=dd;go_wp2_with (go_at_call 188;refine(letter_c _ _).mono ?_;rintro e w' ⟨rfl,rfl⟩)
      rw[Exit.noGoto_ret];go_ret;exact⟨rfl,Ext.alloc _ _⟩
    ·obtain rfl:k=s.size:=by omega
     have hnx:=fun ty=>run_next_end (P:=Tryz.prog) w s s.size ty (by omega);have htk:s.toList.take s.size=s.toList:=List.take_of_length_le (by rw[zQ];omega);rw[htk] at hl⊢;cases hd:s.toList.all (fun b=>b==46) with
     | true=>
      obtain rfl:=HEnd.out true hl hd;clear hd hl;go_wp2_with fail
      rw[Exit.noGoto_ret];go_ret;exact⟨rfl,Ext.alloc _ _⟩
     | false=>
      obtain rfl:=HEnd.out false hl hd;clear hd hl;go_wp2_with fail
      rw[Exit.noGoto_ret];go_ret;exact⟨rfl,Ext.alloc _ _⟩
  ·have d12:decide ((s.size:Int)≤12)=false:=by simp;omega
   have HEnd:Hid (∀ dk,s.toList.all lb=true→(s.toList.all fun b=>b==46)=dk→z=(false && !dk)):=fun dk h1 h2=>by rw[HK.out,h1,h2,he,decide_eq_false h12];simp
   clear HK h12;go_enter Tryz.func183,Tryz.ntmps183;go_wp2_with fail
   go_step3
   go_wp2_with fail
   go_step3
   go_wp2_with fail
   go_loopw [3,4] (fun r d wr=>∃ k:Nat,k≤s.size∧wr=w.iter s k∧r=.bool false∧d=.bool ((s.toList.take k).all fun b=>b==46)∧(s.toList.take k).all lb=true) (fun _ _ wr=>s.size-wr.iterPos w.heap.size)
   case atStart=>exact⟨0,by omega,rfl,rfl,rfl,rfl⟩
   case round=>
    obtain⟨k,hk,rfl,rfl,rfl,hl⟩:=hrel;by_cases hlt:k<s.size
    ·have HBad:Hid (lb (s[k]'hlt)=false→s.toList.all lb=false):=fun h=>all_false_of hlt h
     by_cases h128:(s[k]'hlt).toNat<128
     ·have hnx:=fun ty=>run_next_ascii (P:=Tryz.prog) w s k ty hlt h128
      have HS1:=hid (take_succ_all s k hlt lb);have HS2:=hid (take_succ_all s k hlt fun b=>b==46);have hcast:Hid (((s[k]'hlt)==46)=(((s[k]'hlt).toNat:Int)==46)):=by
       unfold Hid;rw[Bool.eq_iff_iff,beq_iff_eq,beq_iff_eq]
       constructor
       ·intro h;rw[h];rfl
       ·intro h
        have h5:(s[k]'hlt).toNat=46:=by omega
        exact UInt8.toNat_inj.1 h5
      have HL:=hid hl;clear hl;cases hd:(s.toList.take k).all (fun b=>b==46) with
      | true=>
       rw[hd] at HS2;clear hd;cases hlb:letterK ((s[k]'hlt).toNat:Int) with
       | true=>
        go_wp2_with (go_at_call 188;refine(letter_c _ _).mono ?_;rintro e w' ⟨rfl,rfl⟩)
        exact⟨⟨k+1,by omega,rfl,rfl,by rw[HS2.out,hcast.out];simp,by rw[HS1.out,HL.out];exact hlb⟩,by simp[World.iterPos,World.iter_heap];omega⟩
       | false=>
        obtain rfl:=HBrk.out (HBad.out hlb);go_wp2_with (go_at_call 188;refine(letter_c _ _).mono ?_;rintro e w' ⟨rfl,rfl⟩)
        rw[Exit.noGoto_ret];go_ret;exact⟨rfl,Ext.alloc _ _⟩
      | false=>
       rw[hd] at HS2;clear hd;cases hlb:letterK ((s[k]'hlt).toNat:Int) with
       | true=>
        go_wp2_with (go_at_call 188;refine(letter_c _ _).mono ?_;rintro e w' ⟨rfl,rfl⟩)
        exact⟨⟨k+1,by omega,rfl,rfl,by rw[HS2.out];simp,by rw[HS1.out,HL.out];exact hlb⟩,by simp[World.iterPos,World.iter_heap];omega⟩
       | false=>
        obtain rfl:=HBrk.out (HBad.out hlb);go_wp2_with (go_at_call 188;refine(letter_c _ _).mono ?_;rintro e w' ⟨rfl,rfl⟩)
        rw[Exit.noGoto_ret];go_ret;exact⟨rfl,Ext.alloc _ _⟩
     ·obtain rfl:=HBrk.out (HBad.out (lb_big h128))
      obtain⟨z,d,hzl,hnz⟩:∃ (z:Int) (d:Nat),letterK z=false ∧ ∀ ty,(Instr.next (.pointer (some ⟨w.heap.size,0,none⟩)) true ty).run Tryz.prog (w.iter s k)=.ok (.tuple #[.bool true,.int .i64 k,.int .i32 z]) (w.iter s d):=by
       refine⟨((Utf8.decode s k).1:Int),k+(Utf8.decode s k).2,letterK_big (by have:=decode_big s k hlt h128;omega),fun ty=>?_⟩;rw[Lib.run_next_any_at (P:=Tryz.prog) (w.iter s k) w.heap.size s k ty (World.iter_heap w s k) hlt]
       congr 1
       exact World.iter_set w s k _
      clear h128 HBad hl;generalize (s.toList.take k).all (fun b=>b==46)=dd;go_wp2_with (go_at_call 188;refine(letter_c _ _).mono ?_;rintro e w' ⟨rfl,rfl⟩)
      rw[Exit.noGoto_ret];go_ret;exact⟨rfl,Ext.alloc _ _⟩
    ·obtain rfl:k=s.size:=by omega
     have hnx:=fun ty=>run_next_end (P:=Tryz.prog) w s s.size ty (by omega);have htk:s.toList.take s.size=s.toList:=List.take_of_length_le (by rw[zQ];omega);rw[htk] at hl⊢;cases hd:s.toList.all (fun b=>b==46) with
     | true=>
      obtain rfl:=HEnd.out true hl hd;clear hd hl;go_wp2_with fail
      rw[Exit.noGoto_ret];go_ret;exact⟨rfl,Ext.alloc _ _⟩
     | false=>
      obtain rfl:=HEnd.out false hl hd;clear hd hl;go_wp2_with fail
      rw[Exit.noGoto_ret];go_ret;exact⟨rfl,Ext.alloc _ _⟩
def dotsK (s:ByteArray) (k:Nat):Nat:=(s.toList.take k).countP fun b=>b==46
theorem dotsK_succ (s:ByteArray) (k:Nat) (h:k<s.size):dotsK s (k+1)=dotsK s k+(if s[k]=46 then 1 else 0):=by
 have hl:k<s.toList.length:=by rw[zQ];exact h
 have e:s.toList[k]=s[k]:=by
  have:=zcO s k h;rw[List.getElem?_eq_getElem hl] at this;injection this
 unfold dotsK;rw[List.take_succ_eq_append_getElem hl,List.countP_append,e];simp[List.countP_cons]
theorem dotsK_all (s:ByteArray):(decide ((dotsK s s.size:Int)<(s.size:Int))) = !(s.toList.all fun b=>b==46):=by
 have e:dotsK s s.size=s.toList.countP fun b=>b==46:=by
  unfold dotsK;rw[List.take_of_length_le (by rw[zQ];omega)]
 have h1:=List.countP_le_length (p:=fun b:UInt8=>b==46) (l:=s.toList);have h2:=List.countP_eq_length (p:=fun b:UInt8=>b==46) (l:=s.toList);rw[←e,zQ] at h1 h2;cases ha:s.toList.all fun b=>b==46 with
 | true=>
  have:=h2.2 (by simpa using ha);rw[this];simp
 | false=>
  have:dotsK s s.size≠s.size:=fun h=>by
   have h3:=List.all_eq_true.2 (h2.1 h);rw[ha] at h3;cases h3
  simp;omega
theorem lk_iff (z:Int):letterK z=true↔(97≤z∧z≤122)∨(48≤z∧z≤57)∨z=46∨z=45∨z=95:=by
 unfold letterK;simp only[Bool.or_eq_true,Bool.and_eq_true,decide_eq_true_eq,beq_iff_eq];omega
theorem lk_yes {z:Int} (h:(97≤z∧z≤122)∨(48≤z∧z≤57)∨z=46∨z=45∨z=95):letterK z=true:=(lk_iff z).2 h
theorem lk_no {z:Int} (h:¬ ((97≤z∧z≤122)∨(48≤z∧z≤57)∨z=46∨z=45∨z=95)):letterK z=false:=by
 cases hh:letterK z with
 | false=>rfl
 | true=>exact absurd ((lk_iff z).1 hh) h
theorem rname_c (s : ByteArray) (w : World) (hs : s.size ≤ 100000) : Calls Tryz.prog 136 #[.string s] w (fun e w' => e = .returned (.bool (nameK s)) ∧ w = w') := by
  have HK : Hid (nameK s = (!s.toList.isEmpty && decide (s.size ≤ 12) && s.toList.all lb && !(s.toList.all fun b => b == 46))) := rfl
  generalize nameK s = z at HK
  have HBrk : Hid (s.toList.all lb = false → z = false) := fun h => by rw [HK.out, h]; simp
  go_enter Tryz.func136, Tryz.ntmps136
  go_wp2_with fail
  go_loopw [3, 4] (fun d i wr => ∃ k : Nat, k ≤ s.size ∧ wr = w ∧ i = .int .i64 k ∧ d = .int .i64 (dotsK s k) ∧ (s.toList.take k).all lb = true) (fun _ i _ => s.size - (intOf i).toNat)
  case atStart => exact ⟨0, by omega, rfl, rfl, rfl, rfl⟩
  case round =>
    obtain ⟨k, hk, rfl, rfl, rfl, hl⟩ := hrel
    have hdk : dotsK s k ≤ k := Nat.le_trans List.countP_le_length (List.length_take_le _ _)
    by_cases hlt : k < s.size
    · have HBad : Hid (lb (s[k]'hlt) = false → s.toList.all lb = false) := fun h => all_false_of hlt h
      have HS1 := hid (take_succ_all s k hlt lb)
      have HS2 := hid (dotsK_succ s k hlt)
      have HL := hid hl
      clear hl
      by_cases h46 : s[k] = 46
      · have hb : ((s[k].toNat : Int) == 46) = true := by rw [h46]; rfl
        have HD : Hid (dotsK s (k + 1) = dotsK s k + 1) := by
          unfold Hid; rw [HS2.out, if_pos h46]
        have HA : Hid ((s.toList.take (k + 1)).all lb = true) := by
          unfold Hid; rw [HS1.out, HL.out, h46]; rfl
        clear h46 HS1 HS2
        go_wp2_with fail
        go_roundw
        case rel => exact ⟨k + 1, by omega, trivial, by go_num, by rw [HD.out]; go_num, HA.out⟩
        case measure => simp [intOf]; omega
      · have hb : ((s[k].toNat : Int) == 46) = false := by
          simp only [beq_eq_false_iff_ne, ne_eq]
          intro h
          exact h46 (UInt8.toNat_inj.1 (show s[k].toNat = (46 : UInt8).toNat by have : (46 : UInt8).toNat = 46 := rfl; omega))
        have HD : Hid (dotsK s (k + 1) = dotsK s k) := by
          unfold Hid; rw [HS2.out, if_neg h46]; omega
        have HA : Hid ((s.toList.take (k + 1)).all lb = letterK (s[k].toNat : Int)) := by
          unfold Hid; rw [HS1.out, HL.out]; rfl
        have HB2 : Hid (letterK (s[k].toNat : Int) = false → z = false) := fun h => HBrk.out (HBad.out h)
        clear h46 HS1 HS2 HBad HBrk
        go_wp2_with fail
        all_goals first
          | (go_ret
             obtain rfl := HB2.out (lk_no (by simp_all <;> omega))
             exact ⟨rfl, rfl⟩)
          | (go_roundw
             case rel => exact ⟨k + 1, by omega, trivial, by go_num, by rw [HD.out], by rw [HA.out]; exact lk_yes (by simp_all <;> omega)⟩
             case measure => simp [intOf]; omega)
    · obtain rfl : k = s.size := by omega
      rw [List.take_of_length_le (by rw [zQ]; omega)] at hl
      have HD := hid (dotsK_all s)
      have he : (!s.toList.isEmpty) = decide (1 ≤ (s.size : Int)) := by
        rw [← zQ]
        cases s.toList with
        | nil => rfl
        | cons _ _ => simp; omega
      have h12 : decide (s.size ≤ 12) = decide ((s.size : Int) ≤ 12) := decide_eq_decide.2 (by omega)
      have HZ : Hid (z = (decide (1 ≤ (s.size : Int)) && decide ((s.size : Int) ≤ 12) && decide ((dotsK s s.size : Int) < (s.size : Int)))) := by
        unfold Hid
        rw [HK.out, he, h12, hl, HD.out, Bool.and_true]
      clear hdk HBrk HK HD he h12 hl
      go_wp2_with fail
      all_goals go_ret
      all_goals refine ⟨?_, rfl⟩
      all_goals rw [HZ.out]
      · show Ending.returned (.bool (decide (dotsK s s.size < s.size))) = _
        rw [decide_eq_true (by assumption : 1 ≤ (s.size : Int)), decide_eq_true (by assumption : (s.size : Int) ≤ 12), Bool.true_and, Bool.true_and]
        congr 2
        exact decide_eq_decide.2 (by omega)
      · show Ending.returned (.bool false) = _
        rw [show decide ((s.size : Int) ≤ 12) = false by simp; omega]
        simp
      · show Ending.returned (.bool false) = _
        rw [show decide (1 ≤ (s.size : Int)) = false by simp; omega]
        simp
end Go.Proofs.YtofjpdgojoppbaaGreatDoor.Pa
namespace Go.Proofs.YtofjpdgojoppbaaGreatDoor
end Go.Proofs.YtofjpdgojoppbaaGreatDoor
namespace Go.Proofs.YtofjpdgojoppbaaGreatDoor.Pa
open Go.RowKit
theorem zw {w w':World} {base:Nat} {e:TypeId} {sz:Nat} {v:Value} {n:Nat} {xs:List Value} (h:w.ownsRow base e sz v n xs) (he:Ext w w'):w'.ownsRow base e sz v n xs:=
 ⟨h.1,h.2.imp id fun⟨g,cap,cur,hv,hb,hg,r⟩=>⟨g,cap,cur,hv,hb,he.heap hg,r⟩⟩
theorem string_info:(Tryz.prog.info? 9).map (fun i=>(i.zero,i.size,i.bytes))=some (some (.string ⟨#[]⟩),1,16):=by kernel_rfl
theorem zt {w:World} {B:Nat} {e:TypeId} {sz:Nat} {v:Value} {n:Nat} {xs:List Value} (h:w.ownsRow B e sz v n xs) (a:Nat) (ha:v.ownBlock=some a):B≤a∧a<w.heap.size:=by
 rcases h.2 with⟨rfl,_⟩ | ⟨g,cap,cur,rfl,hb,hg,_⟩
 ·simp[Value.ownBlock] at ha
 ·simp[Value.ownBlock] at ha
  subst ha;exact⟨hb,(show Blk w g e cur from hg).lt⟩
theorem zam {w:World} {base:Nat} {e:TypeId} {sz:Nat} {v:Value} {xs:List (List Value)} (hsz:∀ x∈xs,x.length=sz) (h:w.ownsRow base e sz v xs.length xs.flatten):Sl w sz v xs:=by
 rcases h.2 with⟨rfl,h0⟩ | ⟨g,cap,cur,rfl,_,hg,h1,h2,h3,h4⟩
 ·have:xs=[]:=List.eq_nil_of_length_eq_zero h0
  subst this;exact Sl.nil w sz
 ·exact Sl.of_flat (show Blk w g e cur from hg) ⟨cur.toList.drop (xs.length*sz),by rw[←h4,List.take_append_drop]⟩ hsz rfl h1 h2
theorem own_strs {w:World} {base:Nat} {e:TypeId} {v:Value} {l:List ByteArray} (h:w.ownsRow base e 1 v l.length (l.map .string)):Sl w 1 v (Strs l):=
 zam (fun x hx=>by obtain⟨y,_,rfl⟩:=List.mem_map.1 hx;rfl) (by rw[strs_flat,show(Strs l).length=l.length by simp[Strs]];exact h)
theorem seg_toList (s:ByteArray) (a b:Nat):(s.extract a b).toList=(s.toList.drop a).take (b-a):=by
 rw[Lib.toList_data,Lib.toList_data,ByteArray.data_extract,Array.toList_extract,List.extract_eq_take_drop]
def noSl (s:ByteArray) (a k:Nat):Prop:=∀ x∈(s.extract a k).toList,x≠47
theorem seg_split (s:ByteArray) (a k:Nat) (hk:k<s.size) (ha:a≤k):s.toList.drop a=(s.extract a k).toList++s[k]::s.toList.drop (k+1):=by
 have hl:k<s.toList.length:=by rw[zQ];exact hk
 have e:s.toList[k]=s[k]:=by
  have:=zcO s k hk;rw[List.getElem?_eq_getElem hl] at this;injection this
 rw[seg_toList,←e,←List.drop_eq_getElem_cons hl];have h2:=List.take_append_drop (k-a) (s.toList.drop a);rw[List.drop_drop,show a+(k-a)=k by omega] at h2;exact h2.symm
theorem noSl_start (s:ByteArray) (a:Nat):noSl s a a:=by
 intro x hx;rw[seg_toList,Nat.sub_self] at hx;simp at hx
theorem noSl_step (s:ByteArray) (a k:Nat) (hk:k<s.size) (ha:a≤k) (h:noSl s a k) (h47:s[k]≠47):noSl s a (k+1):=by
 intro x hx;have e:(s.extract a (k+1)).toList=(s.extract a k).toList++[s[k]]:=by
  have hlen:((s.extract a k).toList).length=k-a:=by rw[zQ,ByteArray.size_extract];omega
  rw[seg_toList s a (k+1),seg_split s a k hk ha,show k+1-a=((s.extract a k).toList).length+1 by omega,List.take_length_add_append];rfl
 rw[e] at hx;rcases List.mem_append.1 hx with hx | hx
 ·exact h x hx
 ·have:x=s[k]:=by simpa using hx
  rw[this];exact h47
theorem cut_at (s:ByteArray) (a k:Nat) (hk:k<s.size) (ha:a≤k) (h:noSl s a k) (h47:s[k]=47):sp (s.toList.drop a)=(s.extract a k).toList::sp (s.toList.drop (k+1)):=by
 rw[seg_split s a k hk ha,h47];exact sp_app _ _ h
theorem cut_end (s:ByteArray) (a:Nat) (h:noSl s a s.size):sp (s.toList.drop a)=[(s.extract a s.size).toList]:=by
 have e:(s.extract a s.size).toList=s.toList.drop a:=by
  rw[seg_toList,List.take_of_length_le];rw[List.length_drop,zQ];omega
 rw[e];unfold noSl at h;rw[e] at h;exact sp_none _ h
theorem rsplit_c (s:ByteArray) (w:World) (hs:s.size≤100000):Calls Tryz.prog 135 #[.string s,.int .u8 47] w (RetQ (fun v w'=>Sl w' 1 v (Strs (spB s))) w):=by
 obtain⟨i0,hi0,hz0,hz1,hz2⟩:=info_parts string_info;go_enter Tryz.func135,Tryz.ntmps135;go_wp2_with fail
 go_loopw [5,6,7] (fun v a i wr=>∃ k m:Nat,k≤s.size∧m≤k∧i=.int .i64 k∧a=.int .i64 m∧Ext w wr ∧ ∃ acc:List ByteArray,acc.length≤k∧sp s.toList=acc.map ByteArray.toList++sp (s.toList.drop m)∧noSl s m k∧wr.ownsRow w.heap.size 9 1 v acc.length (acc.map .string)) (fun _ _ i _=>s.size-(intOf i).toNat)
 case atStart=>exact⟨0,0,by omega,by omega,rfl,rfl,Ext.refl _,[],Nat.zero_le _,rfl,noSl_start s 0,⟨rfl,.inl ⟨rfl,rfl⟩⟩⟩
 case round=>
  obtain⟨k,m,hk,hm,rfl,rfl,hE,acc,hacc,hrest,hno,hown⟩:=hrel;have HE:=hid hE;have HRest:=hid hrest;have HOwn:=hid hown;by_cases hlt:k<s.size
  ·by_cases h47:s[k]=47
   ·have hb:((s[k].toNat:Int)==47)=true:=by rw[h47];rfl
    have HC:=hid (cut_at s m k hlt hm hno h47);have hbs:w.heap.size≤(wr.alloc (.cells #[.string (s.extract m k)] 9)).heap.size:=by have:=HE.out.size;simp;omega
    have O4:Hid ((wr.alloc (.cells #[.string (s.extract m k)] 9)).ownsRow w.heap.size 9 1 u5 acc.length (acc.map .string)):=zw HOwn.out (Ext.alloc _ _);have HN:=hid (noSl_start s (k+1));clear h47 hno hE hrest hown
    go_wp2_with (at_builtin;refine wpList_append_lies _ rfl (.tmp 19) (.tmp 24) _ rfl w.heap.size 9 i0 _ 1 16 Tryz.underlying154 hi0 hz0 hz1 hz2 rfl (by omega) u5 acc.length (acc.map .string) rfl O4.out ⟨wr.heap.size,0,none⟩ 1 1 [.string (s.extract m k)] rfl rfl (World.news_of_block (cs:=#[.string (s.extract m k)]) (t:=9) (fr:=(0,0)) (heap_alloc_new wr _)) (by simp[Value.oneCell']) (by omega) (by unfold maxLen;omega) (by omega) hbs _ rfl ?_;intro g2 c2 w4 hown4 hgrow hat hlt4;have HB:Hid (Ext w w4):=(HE.out.alloc' _).grown hgrow hbs (fun q hq=>(zt O4.out q hq).1);have HO4:=hid hown4;clear hgrow hat hlt4 hown4)
    go_roundw
    case rel=>exact⟨k+1,k+1,by omega,by omega,by go_num,by go_num,HB.out,acc++[s.extract m k],by simp;omega,by rw[HRest.out,HC.out];simp,HN.out,by simpa using HO4.out⟩
    case measure=>simp[intOf];omega
   ·have hb:((s[k].toNat:Int)==47)=false:=by
     simp only[beq_eq_false_iff_ne,ne_eq];intro h;exact h47 (UInt8.toNat_inj.1 (show s[k].toNat=(47:UInt8).toNat by have:(47:UInt8).toNat=47:=rfl;omega))
    have HN:=hid (noSl_step s m k hlt hm hno h47);clear h47 hno hE hrest hown;go_wp2_with fail
    go_roundw
    case rel=>exact⟨k+1,m,by omega,by omega,by go_num,rfl,HE.out,acc,by omega,HRest.out,HN.out,HOwn.out⟩
    case measure=>simp[intOf];omega
  ·obtain rfl:k=s.size:=by omega
   have HC:=hid (cut_end s m hno);have hbs:w.heap.size≤(wr.alloc (.cells #[.string (s.extract m s.size)] 9)).heap.size:=by have:=HE.out.size;simp;omega
   have O4:Hid ((wr.alloc (.cells #[.string (s.extract m s.size)] 9)).ownsRow w.heap.size 9 1 u5 acc.length (acc.map .string)):=zw HOwn.out (Ext.alloc _ _);have HF:Hid (acc++[s.extract m s.size]=spB s):=by
    refine spB_eq ?_;rw[HRest.out,HC.out];simp
   clear hno hE hrest hown;go_wp2_with (at_builtin;refine wpList_append_lies _ rfl (.tmp 28) (.tmp 32) _ rfl w.heap.size 9 i0 _ 1 16 Tryz.underlying154 hi0 hz0 hz1 hz2 rfl (by omega) u5 acc.length (acc.map .string) rfl O4.out ⟨wr.heap.size,0,none⟩ 1 1 [.string (s.extract m s.size)] rfl rfl (World.news_of_block (cs:=#[.string (s.extract m s.size)]) (t:=9) (fr:=(0,0)) (heap_alloc_new wr _)) (by simp[Value.oneCell']) (by omega) (by unfold maxLen;omega) (by omega) hbs _ rfl ?_;intro g2 c2 w4 hown4 hgrow hat hlt4;have HB:Hid (Ext w w4):=(HE.out.alloc' _).grown hgrow hbs (fun q hq=>(zt O4.out q hq).1);have HO4:=hid hown4;clear hgrow hat hlt4 hown4)
   go_ret;exact⟨_,rfl,by rw[←HF.out];exact own_strs (by simpa using HO4.out),HB.out⟩
def rightK (s:ByteArray):Bool:=(spB s).all nameK&&decide (s.size≤40)&&decide ((spB s).length≤6)
theorem right_c (s:ByteArray) (w:World) (hs:s.size≤99999):Calls Tryz.prog 86 #[.string s] w (Ret (.bool (rightK s)) w):=by
 have HSp:=hid (rsplit_c s w (by omega));have hlen:=spB_length s;have hparts:=spB_parts s;unfold rightK;generalize spB s=l at HSp hlen hparts;go_enter Tryz.func86,Tryz.ntmps86;go_wp2_with (go_at_call 135;refine(HSp.out).mono ?_;rintro e w1 ⟨v1,rfl,hv,hx⟩;have HX:=hid hx;obtain⟨A,c,rfl,h1,h2,h3⟩:=sl_str hv;clear hx hv)
 clear HSp;unfold maxLen at h2;go_loopw [4] (fun i wr=>∃ k:Nat,k≤l.length∧i=.int .i64 k∧wr=w1∧(l.take k).all nameK=true) (fun i _=>l.length-(intOf i).toNat)
 case atStart=>exact⟨0,by omega,rfl,rfl,rfl⟩
 case round=>
  obtain⟨k,hk,rfl,rfl,hall⟩:=hrel;by_cases hlt:k<l.length
  ·obtain⟨b,o,rfl,lb0,hc⟩:=h3 (by omega)
   have c0:=hc k hlt;have HN:Hid (∀ W,Calls Tryz.prog 136 #[.string l[k]] W (fun e w'=>e=.returned (.bool (nameK l[k]))∧W=w')):=fun W=>rname_c _ W (by have:=hparts _ (List.getElem_mem hlt);omega);have HS:Hid ((l.take (k+1)).all nameK=nameK l[k]):=by unfold Hid;rw[List.take_succ_eq_append_getElem hlt,List.all_append,hall];simp
   have HB:Hid (nameK l[k]=false→l.all nameK=false):=fun h=>by rw[List.all_eq_false];exact⟨_,List.getElem_mem hlt,by rw[h];simp⟩
   clear hc h3 hall hparts;generalize l[k]=t at c0 HN HS HB;cases hn:nameK t with
   | true=>
    rw[hn] at HN;go_wp2_with (go_at_call 136;refine(HN.out _).mono ?_;rintro e w' ⟨rfl,rfl⟩)
    go_roundw
    case rel=>exact⟨k+1,by omega,by go_num,trivial,by rw[HS.out,hn]⟩
    case measure=>simp[intOf];omega
   | false=>
    rw[hn] at HN;go_wp2_with (go_at_call 136;refine(HN.out _).mono ?_;rintro e w' ⟨rfl,rfl⟩)
    go_ret;exact⟨by rw[HB.out hn];rfl,HX.out⟩
  ·obtain rfl:k=l.length:=by omega
   rw[List.take_length] at hall;have HA:=hid hall;clear hall h3 hparts;by_cases h40:s.size≤40
   ·have d40:decide ((s.size:Int)≤40)=true:=by simp;omega
    have HQ:Hid ((l.all nameK&&decide (s.size≤40)&&decide (l.length≤6))=decide ((l.length:Int)≤6)):=by
     unfold Hid;rw[HA.out,decide_eq_true h40];simp;omega
    clear h40;go_wp2_with fail
    go_ret;exact⟨by rw[HQ.out];rfl,HX.out⟩
   ·have d40:decide ((s.size:Int)≤40)=false:=by simp;omega
    have HQ:Hid ((l.all nameK&&decide (s.size≤40)&&decide (l.length≤6))=false):=by
     unfold Hid;rw[HA.out,decide_eq_false h40];simp
    clear h40;go_wp2_with fail
    go_ret;exact⟨by rw[HQ.out];rfl,HX.out⟩
end Go.Proofs.YtofjpdgojoppbaaGreatDoor.Pa
namespace Go.Proofs.YtofjpdgojoppbaaGreatDoor
end Go.Proofs.YtofjpdgojoppbaaGreatDoor
namespace Go.Proofs.YtofjpdgojoppbaaGreatDoor.Pa
open Go.RowKit
theorem names1_any (w:World) (q b:Nat) (l:List ByteArray) (hq:w.cell? ⟨q,0,none⟩=some (.slice (some ⟨b,0,none⟩) l.length l.length)) (hlq:q<w.heap.size) (lb0:b<w.heap.size) (hc:∀ k (h:k<l.length),w.cell? ⟨b,k,none⟩=some (.string l[k])) (hl:l.length≤2000) (ha:∀ x∈l,x.size≤100000) :
  Calls Tryz.prog 182 #[.pointer (some ⟨q,0,none⟩)] w (Ret (.bool (l.all nameK&&decide (l.length≤6))) w):=by
 go_enter Tryz.func182,Tryz.ntmps182;go_wp2_with fail
 go_loopw [6] (fun i wr=>∃ k:Nat,k≤l.length∧i=.int .i64 k∧Ext w wr∧(l.take k).all nameK=true) (fun i _=>l.length-(intOf i).toNat)
 case atStart=>exact⟨0,by omega,rfl,Ext.refl _,rfl⟩
 case round=>
  obtain⟨k,hk,rfl,hE,hall⟩:=hrel;by_cases hlt:k<l.length
  ·have c0:=hE.cell (hc k hlt)
   have lb1:=Nat.lt_of_lt_of_le lb0 hE.size;have a2:=ha _ (List.getElem_mem hlt);have HN:Hid (∀ W,Calls Tryz.prog 183 #[.string l[k]] W (Ret (.bool (nameK l[k])) W)):=fun W=>name_any _ W a2;have HS:Hid ((l.take (k+1)).all nameK=nameK l[k]):=by unfold Hid;rw[List.take_succ_eq_append_getElem hlt,List.all_append,hall];simp
   have HB:Hid (nameK l[k]=false→l.all nameK=false):=fun h=>by rw[List.all_eq_false];exact⟨_,List.getElem_mem hlt,by rw[h];simp⟩
   have HE:=hid hE;clear hc ha hE hall a2;generalize l[k]=t at c0 HN HS HB;cases hn:nameK t with
   | true=>
    rw[hn] at HN;go_wp2_with (go_at_call 183;refine(HN.out _).mono ?_;rintro e w' ⟨rfl,hx⟩)
    go_roundw
    case rel=>exact⟨k+1,by omega,by go_num,HE.out.trans hx,by rw[HS.out,hn]⟩
    case measure=>simp[intOf];omega
   | false=>
    rw[hn] at HN;go_wp2_with (go_at_call 183;refine(HN.out _).mono ?_;rintro e w' ⟨rfl,hx⟩)
    go_ret;exact⟨by rw[HB.out hn];rfl,HE.out.trans hx⟩
  ·obtain rfl:k=l.length:=by omega
   rw[List.take_length] at hall;have cq:=hE.cell hq;have lq:=Nat.lt_of_lt_of_le hlq hE.size;have HE:=hid hE;have HA:=hid hall;clear hE hc ha hall;go_wp2_with fail
   go_ret;refine⟨?_,HE.out⟩;rw[HA.out,Bool.true_and]
   show Ending.returned (.bool (decide ((l.length:Int)≤6)))=_
   rw[show decide ((l.length:Int)≤6)=decide (l.length≤6) from decide_eq_decide.2 (by omega)]
def pathNo (s:ByteArray):Int:=if rightK s then 0 else 13
def pathNames (s:ByteArray):List ByteArray:=if rightK s then spB s else []
theorem names_c (w:World) (s:ByteArray) (m:Int) (hm:w.cell? ⟨0,0,none⟩=some (.int .i64 m)) (hs:s.size≤90000) :
  Calls Tryz.prog 176 #[.string s] w (fun e w'=>∃ v,e=.returned (.tuple #[v,.int .i64 (pathNo s)])∧Sl w' 1 v (Strs (pathNames s))∧Ext w w'):=by
 unfold pathNo pathNames;by_cases h40:s.size≤40
 ·have hR:rightK s=((spB s).all nameK&&decide ((spB s).length≤6)):=by
   unfold rightK;rw[decide_eq_true h40,Bool.and_true]
  rw[hR];have HS:=hid (Tryz.strings_Split s ⟨#[47]⟩ m w (by omega) hm (by rw[show(⟨#[47]⟩:ByteArray).size=1 from rfl];omega));rw[splitB_spB,countB_spB] at HS;have hl1:=spB_length s;have ha:=spB_parts s;generalize spB s=l at *;have HB:Hid (Blk (w.alloc (.cells (l.map Value.string).toArray 9)) w.heap.size 9 (l.map Value.string).toArray):=Blk.new _ _ _;have H1:Hid (∀ W,Ext ((w.alloc (.cells (l.map Value.string).toArray 9)).alloc (.cells #[.slice (some ⟨w.heap.size,0,none⟩) l.length l.length] 154)) W→Calls Tryz.prog 182 #[.pointer (some ⟨w.heap.size+1,0,none⟩)] W (Ret (.bool (l.all nameK&&decide (l.length≤6))) W)):=fun W he=>by
   have hb:=(HB.out.alloc (.cells #[.slice (some ⟨w.heap.size,0,none⟩) l.length l.length] 154)).ext he;have hq:=(Blk.new (w.alloc (.cells (l.map Value.string).toArray 9)) 154 #[.slice (some ⟨w.heap.size,0,none⟩) l.length l.length]).ext he;simp only[World.size_alloc] at hq;exact names1_any W (w.heap.size+1) w.heap.size l (hq.cell rfl) hq.lt hb.lt (fun k h=>hb.cell (by simp[h])) (by omega) (fun x hx=>by have:=ha x hx;omega)
  have hs40:decide ((40:Int)<(s.size:Int))=false:=by simp;omega
  clear hR h40 ha hm;have hl2:l.length≤90001:=by omega
  clear hl1;cases hok:(l.all nameK&&decide (l.length≤6)) with
  | true=>
   rw[hok] at H1;rw[if_pos rfl,if_pos rfl];clear hok;go_enter Tryz.func176,Tryz.ntmps176;go_wp2_with (go_at_call 181;refine(HS.out).mono ?_;rintro e w' ⟨rfl,rfl⟩)
   refine(H1.out _ (Ext.refl _)).mono ?_;rintro e w' ⟨rfl,hx⟩;have HX:=hid (((Ext.alloc w (.cells (l.map Value.string).toArray 9)).trans (Ext.alloc _ _)).trans hx);have hq:=(Blk.new (w.alloc (.cells (l.map Value.string).toArray 9)) 154 #[.slice (some ⟨w.heap.size,0,none⟩) l.length l.length]).ext hx;simp only[World.size_alloc] at hq;have c0:=hq.cell (i:=0) (v:=.slice (some ⟨w.heap.size,0,none⟩) l.length l.length) rfl;have lq:=hq.lt;have hb:=(HB.out.alloc (.cells #[.slice (some ⟨w.heap.size,0,none⟩) l.length l.length] 154)).ext hx
   have HSl:Hid (Sl w' 1 (.slice (some ⟨w.heap.size,0,none⟩) l.length l.length) (Strs l)):=Sl.of_flat hb ⟨[],by rw[strs_flat,List.append_nil]⟩ (by simp[Strs]) (by simp[Strs]) (Nat.le_refl _) (by unfold maxLen;omega);clear hq hb hx;go_wp2_with fail
   go_ret2;exact⟨_,rfl,HSl.out,HX.out⟩
  | false=>
   rw[hok] at H1;rw[if_neg (by simp),if_neg (by simp)];clear hok;go_enter Tryz.func176,Tryz.ntmps176;go_wp2_with (go_at_call 181;refine(HS.out).mono ?_;rintro e w' ⟨rfl,rfl⟩)
   refine(H1.out _ (Ext.refl _)).mono ?_;rintro e w' ⟨rfl,hx⟩;have HX:=hid (((Ext.alloc w (.cells (l.map Value.string).toArray 9)).trans (Ext.alloc _ _)).trans hx);clear hx;go_wp2_with fail
   go_ret2;exact⟨_,rfl,Sl.nil _ 1,HX.out⟩
 ·have hR:rightK s=false:=by
   unfold rightK;rw[decide_eq_false h40];simp
  rw[hR,if_neg (by simp),if_neg (by simp)];have hs40:decide ((40:Int)<(s.size:Int))=true:=by simp;omega
  clear hR h40;go_enter Tryz.func176,Tryz.ntmps176;go_wp2_with fail
  go_ret2;exact⟨_,rfl,Sl.nil _ 1,Ext.refl _⟩
theorem check_c (w:World) (s:ByteArray) (m:Int) (hm:w.cell? ⟨0,0,none⟩=some (.int .i64 m)) (hs:s.size≤90000):Calls Tryz.prog 167 #[.string s] w (Ret (.int .i64 (pathNo s)) w):=by
 have HN:=hid (names_c w s m hm hs);clear hm;generalize pathNo s=z at *;go_enter Tryz.func167,Tryz.ntmps167;go_wp2_with (go_at_call 176;refine(HN.out).mono ?_;rintro e w' ⟨v1,rfl,hv,hx⟩;have HX:=hid hx;clear hx hv)
 go_ret;exact⟨rfl,HX.out⟩
end Go.Proofs.YtofjpdgojoppbaaGreatDoor.Pa
namespace Go.Proofs.YtofjpdgojoppbaaGreatDoor
section
open Go.RowKit
def chkK (it:Ver) (st:Stamp) (p:ByteArray) (n:Int) (dead:Bool):Int:=
 if zD it=false∨za0 st=false then 2 else if Pa.rightK p=false then 13 else if 200<n then 4 else if n<0∨(dead=true∧0<n) then 6 else 0
def UpdI.chk (u:UpdI):Int:=chkK u.item u.st u.p u.d.size u.dead
def MetaI.chk (m:MetaI):Int:=chkK m.item m.st m.p m.size m.dead
theorem ze3 (d:ByteArray):(0:Int)<d.size↔d.toList.isEmpty=false:=by
 rw[←zQ];cases d.toList <;> simp
theorem zbJ {it:Ver} {st:Stamp} {p:ByteArray} {n:Int} {dead:Bool} (h:zD it=false∨za0 st=false):chkK it st p n dead=2:=if_pos h
theorem zb9 {it:Ver} {st:Stamp} {p:ByteArray} {n:Int} {dead:Bool} (h1:zD it=true) (h2:za0 st=true) (h3:Pa.rightK p=false):chkK it st p n dead=13:=by
 unfold chkK;rw[if_neg (by simp[h1,h2]),if_pos h3]
theorem zbV {it:Ver} {st:Stamp} {p:ByteArray} {n:Int} {dead:Bool} (h1:zD it=true) (h2:za0 st=true) (h3:Pa.rightK p=true):chkK it st p n dead=if 200<n then 4 else if n<0∨(dead=true∧0<n) then 6 else 0:=by
 unfold chkK;rw[if_neg (by simp[h1,h2]),if_neg (by simp[h3])]
theorem zeZ (w:World) (u:UpdI) (m:Int) (hm:w.cell? ⟨0,0,none⟩=some (.int .i64 m)) (hu:u.p.size≤90000):Calls Tryz.prog 137 #[u.val] w (Ret (.int .i64 u.chk) w):=by
 have H1:=fun W=>hid (zbx u.item W);have H2:=fun W=>hid (zk9 u.st W);have H3:=fun W (hW:Ext w W)=>hid (Pa.check_c W u.p m (hW.cell hm) hu);have HB:=hid (Blk.new w 55 #[.int .i64 u.item.by_,.int .i64 u.item.n,.int .i64 u.st.v.by_,.int .i64 u.st.v.n,.int .i64 u.st.time,.string u.p,.string u.d,.bool u.dead]);have X0:=hid (Ext.alloc w (.cells #[.int .i64 u.item.by_,.int .i64 u.item.n,.int .i64 u.st.v.by_,.int .i64 u.st.v.n,.int .i64 u.st.time,.string u.p,.string u.d,.bool u.dead] 55));unfold Ver.val at H1;unfold Stamp.val at H2;unfold Pa.pathNo at H3;unfold UpdI.chk UpdI.val;clear hm hu;cases h1:zD u.item
 case' false=>
  rw[zbJ (.inl h1)];rw[zcG h1] at H1;clear h1 H2 H3
 case' true=>
  rw[zbW h1] at H1;cases h2:za0 u.st
  case' false=>
   rw[zbJ (.inr h2)];rw[zkV h2] at H2;clear h1 h2 H3
  case' true=>
   rw[zje h2] at H2;cases h3:Pa.rightK u.p
   case' false=>
    rw[zb9 h1 h2 h3];rw[h3] at H3;simp only[Bool.false_eq_true,if_false] at H3;clear h1 h2 h3
   case' true=>
    rw[zbV h1 h2 h3];rw[h3] at H3;simp only[if_true] at H3;clear h1 h2 h3;by_cases h4:(200:Int)<u.d.size
    case' pos=>
     rw[if_pos h4];have d4:decide ((200:Int)<u.d.size)=true:=decide_eq_true h4;clear h4
    case' neg=>
     rw[if_neg h4];have d4:decide ((200:Int)<u.d.size)=false:=decide_eq_false h4;clear h4;cases h5:u.dead
     case' false=>
      rw[if_neg (by simp)];rw[h5] at HB X0
     case' true=>
      rw[h5] at HB X0;cases h6:u.d.toList.isEmpty
      case' true=>
       rw[if_neg (by rw[ze3,h6];simp)]
      case' false=>
       rw[if_pos (by rw[ze3,h6];simp)]
 all_goals
  go_enter Tryz.func137,Tryz.ntmps137;go_wp2_with (first
   | (go_at_call 167;refine((H3 _ X2.out).out).mono ?_;rintro e w3 ⟨rfl,hx⟩;have hb:=HB2.out.ext hx;have d0:=hb.cell (i:=0) (v:=.int .i64 u.item.by_) rfl;have d1:=hb.cell (i:=1) (v:=.int .i64 u.item.n) rfl;have d2:=hb.cell (i:=2) (v:=.int .i64 u.st.v.by_) rfl;have d3:=hb.cell (i:=3) (v:=.int .i64 u.st.v.n) rfl;have d4:=hb.cell (i:=4) (v:=.int .i64 u.st.time) rfl;have d5:=hb.cell (i:=5) (v:=.string u.p) rfl;have d6:=hb.cell (i:=6) (v:=.string u.d) rfl;have d7:=hb.cell (i:=7) rfl;have dl:=hb.lt;have X3:=hid (X2.out.trans hx);clear hb hx)
   | (go_at_call 166;refine((H2 _).out).mono ?_;rintro e w2 ⟨rfl,hx⟩;have hb:=HB1.out.ext hx;have b0:=hb.cell (i:=0) (v:=.int .i64 u.item.by_) rfl;have b1:=hb.cell (i:=1) (v:=.int .i64 u.item.n) rfl;have b2:=hb.cell (i:=2) (v:=.int .i64 u.st.v.by_) rfl;have b3:=hb.cell (i:=3) (v:=.int .i64 u.st.v.n) rfl;have b4:=hb.cell (i:=4) (v:=.int .i64 u.st.time) rfl;have b5:=hb.cell (i:=5) (v:=.string u.p) rfl;have b6:=hb.cell (i:=6) (v:=.string u.d) rfl;have b7:=hb.cell (i:=7) rfl;have bl:=hb.lt;have X2:=hid (X1.out.trans hx);have HB2:=hid hb;clear hb hx)
   | (go_at_call 142;refine((H1 _).out).mono ?_;rintro e w1 ⟨rfl,hx⟩;have hb:=HB.out.ext hx;have a0:=hb.cell (i:=0) (v:=.int .i64 u.item.by_) rfl;have a1:=hb.cell (i:=1) (v:=.int .i64 u.item.n) rfl;have a2:=hb.cell (i:=2) (v:=.int .i64 u.st.v.by_) rfl;have a3:=hb.cell (i:=3) (v:=.int .i64 u.st.v.n) rfl;have a4:=hb.cell (i:=4) (v:=.int .i64 u.st.time) rfl;have a5:=hb.cell (i:=5) (v:=.string u.p) rfl;have a6:=hb.cell (i:=6) (v:=.string u.d) rfl;have a7:=hb.cell (i:=7) rfl;have al:=hb.lt;have X1:=hid (X0.out.trans hx);have HB1:=hid hb;clear hb hx))
  go_ret
  first
  | exact⟨rfl,X3.out⟩
  | exact⟨rfl,X2.out⟩
  | exact⟨rfl,X1.out⟩
end
section
open Go.RowKit Go.ChangeShapes Go.WideShapes Go.ChangeAt Go.Deep
theorem zcZ {H:Type} {enc:TypeId×Value→H} {a:Assume} {C:Checked} {os:Os} {f:FuncId} {fn:Func} {s:ChangeSpec} {conds:List PathCond} {apart fresh handsOn again:Bool} {X:World→Array Value→Prop}
  (hX:∀ (w w':World) (args:Array Value),w.heap=w'.heap→X w args→X w' args)
  (own:ownKnob C.prog.godebug=none) (started:os.Started) (noInit:C.prog.inits.idxOf? f=none) (hfn:C.prog.funcs[f]? = some fn)
  (witness:∃ (w:World) (tape:Tape) (i:Input),w.os=os∧(w.forCall tape i).Shaped C.prog∧i.vars=[]∧Input.okWide C.prog (w.forCall tape i) .any w.heap.size f i ∧
   ((s.pre enc C.prog fn conds apart (w.forCall tape i).memory i.args∧X (w.forCall tape i).memory i.args)∧sizedMet enc C.prog fn (OpenSpec.ofChange s) apart (w.forCall tape i).memory i.args)∧a.holds C.prog (lone (Frame.enter C.prog f i.args .normal) [] (w.forCall tape i)))
  (contract:∀ (W:World) (base:Nat) (args:Array Value) (ds gs:List (DataW H)) (before:List MemPlace),
   (∀ (j:Nat) t v,fn.params[j]? = some t→args[j]? = some v→Value.okWide C.prog W .any base t v) →
   DataW.Whole enc C.prog fn.params.toList s.vars apart W args.toList ds gs before→W.ShapedOpen C.prog →
   Calls C.prog f args W fun e W'=>∃ v,e=.returned v∧s.post enc C.prog fn apart fresh handsOn again W args v W') :
  ReturnsInHanded a C os f .any (fun w args=>(s.pre enc C.prog fn conds apart w args∧X w args)∧sizedMet enc C.prog fn (OpenSpec.ofChange s) apart w args) (s.post enc C.prog fn apart fresh handsOn again):=by
 refine returnsInHanded_of_calls own started noInit witness ?_;intro w tape i _ hsh _ hok hpre hholds;obtain⟨_,_,_,fn',hfn',_,_,_,_,hval⟩:=hok;have e:fn'=fn:=Option.some.inj (hfn'.symm.trans hfn);subst e;obtain⟨⟨⟨ds,gs,before,hw,hc⟩,hx⟩,hz⟩:=hpre;have hw':=DataW.Whole.of_heap (w':=w.forCall tape i) (by rfl) hw;refine(contract (w.forCall tape i) w.heap.size i.args ds gs before hval hw' hsh).mono fun e W' ⟨v,he,hp⟩=>?_;subst he;exact ChangeSpec.post_blind hp
theorem zhG {W:World} (h:W.ShapedOpen Tryz.prog):∃ m,W.cell? ⟨0,0,none⟩=some (.int .i64 m):=Tryz.laysM146.s1_3 W h
end
end Go.Proofs.YtofjpdgojoppbaaGreatDoor
