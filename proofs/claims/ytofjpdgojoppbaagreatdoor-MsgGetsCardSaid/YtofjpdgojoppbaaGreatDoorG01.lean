/-
  Of the claim's proof: LbA.
-/
import Derived.Test.YtofjpdgojoppbaaGreatDoorProg
import Derived.IntWalk
set_option maxRecDepth 100000
set_option maxHeartbeats 16000000
set_option linter.unusedVariables false
set_option linter.unusedSimpArgs false
namespace Go.Proofs.YtofjpdgojoppbaaGreatDoor
def lebL (n:Nat):List UInt8:=if h:127<n then UInt8.ofNat (n%128+128)::lebL (n/128) else [UInt8.ofNat n]
termination_by n
decreasing_by omega
theorem zaF {n:Nat} (h:n≤127):lebL n=[UInt8.ofNat n]:=by rw[lebL,dif_neg (by omega)]
theorem zcS {n:Nat} (h:127<n):lebL n=UInt8.ofNat (n%128+128)::lebL (n/128):=by rw[lebL,dif_pos h]
theorem zh6:∀ (d n:Nat),n<128^(d+1)→(lebL n).length≤d+1
 | 0,n,h=>by rw[zaF (by omega)];exact Nat.le_refl _
 | d+1,n,h=>by
  by_cases hn:127<n
  ·rw[zcS hn,List.length_cons]
   have:=zh6 d (n/128) (by
    rw[Nat.div_lt_iff_lt_mul (by omega)];rw[Nat.pow_succ] at h;exact h)
   omega
  ·rw[zaF (by omega)]
   simp
theorem zcw (n:Nat):0<(lebL n).length:=by
 by_cases hn:127<n
 ·rw[zcS hn];simp
 ·rw[zaF (by omega)];simp
theorem zcg {n:Nat} (h:n<9223372036854775808):(lebL n).length≤9:=zh6 8 n (by omega)
theorem zhW {a m i:Nat} (ha:a<128^i):a|||(m*128^i)=a+m*128^i:=by
 have e:(128:Nat)^i=2^(7*i):=by rw[Nat.pow_mul]
 rw[e] at ha⊢;rw[Nat.or_comm,Nat.mul_comm m,Nat.add_comm];exact(Nat.two_pow_add_eq_or_of_lt ha m).symm
structure Reads (n:Nat) (i acc m:Nat):Prop where
 sum:n=acc+m*128^i
 low:acc<128^i
 one:0<i→0<m
theorem Reads.start (n:Nat):Reads n 0 0 n:=⟨by simp,by simp,fun h=>by omega⟩
theorem Reads.step {n i acc m:Nat} (h:Reads n i acc m) (hm:127<m):Reads n (i+1) (acc+m%128*128^i) (m/128):=by
 refine⟨?_,?_,fun _=>Nat.div_pos (by omega) (by omega)⟩
 ·have e:=Nat.div_add_mod m 128
  have hs:=h.sum;rw[Nat.pow_succ,Nat.add_assoc,show m/128*(128^i*128)=(128*(m/128))*128^i by rw[Nat.mul_comm (128^i),←Nat.mul_assoc,Nat.mul_comm (m/128)],←Nat.add_mul,Nat.add_comm (m%128),e];exact hs
 ·have h1:=h.low
  have h2:m%128<128:=Nat.mod_lt _ (by omega);have h3:m%128*128^i≤127*128^i:=Nat.mul_le_mul_right _ (by omega);rw[Nat.pow_succ];omega
theorem Reads.stop {n i acc m:Nat} (h:Reads n i acc m):acc+m*128^i=n:=h.sum.symm
theorem Reads.lt {n i acc m:Nat} (h:Reads n i acc m) (hn:n<9223372036854775808) (hi:0<i):i<9:=by
 refine Classical.byContradiction fun h9=>?_;have h1:=h.one hi;have h2:128^9≤128^i:=Nat.pow_le_pow_right (by omega) (by omega);have h3:128^i≤m*128^i:=Nat.le_mul_of_pos_left _ h1;have h4:=h.sum;have:(128:Nat)^9=9223372036854775808:=by decide
 omega
theorem ziB {a b:Nat} (h:a|||b<9223372036854775808):bits .or .i64 (a:Int) (b:Int)=((a|||b:Nat):Int):=by
 have ha:a≤a|||b:=Nat.left_le_or;have hb:b≤a|||b:=Nat.right_le_or;unfold bits;simp;have h64:(2:Nat)^IntKind.i64.bits=18446744073709551616:=rfl;rw[h64,Nat.mod_eq_of_lt (by omega),Nat.mod_eq_of_lt (by omega)];exact IntWalk.i64_in _ (by omega)
theorem zki {m i:Nat} (hm:m<128) (hi:i<9):IntKind.i64.wrap ((m:Int)*2^(7*(i:Int)).toNat)=((m*128^i:Nat):Int):=by
 have e:(7*(i:Int)).toNat=7*i:=by omega
 have e2:(2:Nat)^(7*i)=128^i:=by rw[Nat.pow_mul]
 have h1:(128:Nat)^i≤128^8:=Nat.pow_le_pow_right (by omega) (by omega);have h2:m*128^i≤127*128^8:=Nat.mul_le_mul (by omega) h1;have h3:(127:Nat)*128^8=9151314442816847872:=by decide
 rw[e,show((m:Int)*2^(7*i))=((m*2^(7*i):Nat):Int) by simp,e2];exact IntWalk.i64_in _ (by omega)
end Go.Proofs.YtofjpdgojoppbaaGreatDoor
