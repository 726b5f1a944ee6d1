/-
  Of the claim's proof: CrA, CrB, MgA, FrB, FrC, CrC, CrD, FrD.
-/
import Derived.Test.YtofjpdgojoppbaaGreatDoorProg
import Derived.OwnWalk
import Derived.BigQuiet
import Derived.Test.YtofjpdgojoppbaaGreatDoorT01
import Derived.Test.YtofjpdgojoppbaaGreatDoorT02
import Derived.Test.YtofjpdgojoppbaaGreatDoorT05
import Derived.Test.YtofjpdgojoppbaaGreatDoorT19
set_option maxRecDepth 100000
set_option maxHeartbeats 16000000
set_option linter.unusedVariables false
set_option linter.unusedSimpArgs false
namespace Go.Proofs.YtofjpdgojoppbaaGreatDoor
section
def crcP:Nat:=2197175160
def zaD (x:Nat):Nat:=(x >>> 1)^^^(if x%2=1 then crcP else 0)
def crcN:Nat→Nat→Nat
 | 0,x=>x
 | k+1,x=>crcN k (zaD x)
def zcs (x:Nat) (b:Nat):Nat:=crcN 8 (x^^^b)
def zbI (l:List UInt8):Nat:=l.foldl (fun x c=>zcs x c.toNat) 4294967295
def zaT (l:List UInt8):Nat:=zbI l^^^4294967295
theorem zhA:∀ (k x:Nat),crcN (k+1) x=zaD (crcN k x)
 | 0,_=>rfl
 | k+1,x=>zhA k (zaD x)
theorem zet {x:Nat} (h:x<4294967296):zaD x<4294967296:=by
 unfold zaD;refine Nat.xor_lt_two_pow (n:=32) ?_ ?_
 ·rw[Nat.shiftRight_eq_div_pow];omega
 ·split <;> decide
theorem zim:∀ (k:Nat) {x:Nat},x<4294967296→crcN k x<4294967296
 | 0,_,h=>h
 | k+1,_,h=>zim k (zet h)
theorem zcW {x b:Nat} (h:x<4294967296) (hb:b<256):zcs x b<4294967296:=
 zim 8 (Nat.xor_lt_two_pow (n:=32) h (by omega))
theorem zhy:∀ (l:List UInt8) {x:Nat},x<4294967296→l.foldl (fun x c=>zcs x c.toNat) x<4294967296
 | [],_,h=>h
 | c::l,_,h=>zhy l (zcW h c.toNat_lt)
theorem zd7 (l:List UInt8):zbI l<4294967296:=zhy l (by omega)
theorem zcI (l:List UInt8):zaT l<4294967296:=Nat.xor_lt_two_pow (n:=32) (zd7 l) (by decide)
theorem zjx (l:List UInt8) (c:UInt8):zbI (l++[c])=zcs (zbI l) c.toNat:=by simp[zbI]
theorem odd_bit (x:Nat):decide (x%2=1)=x.testBit 0:=by simp[Nat.testBit_zero]
theorem zb3 (x j:Nat):(zaD x).testBit j=(x.testBit (j+1) ^^ (x.testBit 0&&crcP.testBit j)):=by
 unfold zaD;rw[Nat.testBit_xor,Nat.testBit_shiftRight,Nat.add_comm 1 j]
 congr 1
 have h:=odd_bit x;by_cases hx:x%2=1
 ·rw[if_pos hx,←h,decide_eq_true hx,Bool.true_and]
 ·rw[if_neg hx,←h,decide_eq_false hx,Bool.false_and,Nat.zero_testBit]
theorem zfG (a b:Nat):zaD (a^^^b)=zaD a^^^zaD b:=by
 apply Nat.eq_of_testBit_eq;intro j;rw[Nat.testBit_xor,zb3,zb3,zb3,Nat.testBit_xor,Nat.testBit_xor];cases a.testBit (j+1) <;> cases b.testBit (j+1) <;> cases a.testBit 0 <;> cases b.testBit 0 <;> cases crcP.testBit j <;> rfl
theorem zik {x:Nat} (h:x<4294967296) (h0:zaD x=0):x=0:=by
 have e:x.testBit 0=false:=by
  have hb:=zb3 x 31;rw[h0,Nat.zero_testBit,Nat.testBit_lt_two_pow (show x<2^(31+1) by omega),show crcP.testBit 31=true by decide] at hb;simpa using hb.symm
 apply Nat.eq_of_testBit_eq;intro j;rw[Nat.zero_testBit];cases j with
 | zero=>exact e
 | succ j=>
  have hb:=zb3 x j;rw[h0,Nat.zero_testBit,e,Bool.false_and,Bool.xor_false] at hb;exact hb.symm
theorem zjy:∀ (k a b:Nat),crcN k (a^^^b)=crcN k a^^^crcN k b
 | 0,_,_=>rfl
 | k+1,a,b=>by
  show crcN k (zaD (a^^^b))=crcN k (zaD a)^^^crcN k (zaD b)
  rw[zfG,zjy k]
theorem zhz:∀ (k:Nat) {x:Nat},x<4294967296→crcN k x=0→x=0
 | 0,_,_,h0=>h0
 | k+1,_,h,h0=>zik h (zhz k (zet h) h0)
theorem xor_zero {a b:Nat} (h:a^^^b=0):a=b:=by
 apply Nat.eq_of_testBit_eq;intro j;have:=congrArg (fun x=>x.testBit j) h;simp only[Nat.testBit_xor,Nat.zero_testBit] at this;cases ha:a.testBit j <;> cases hb:b.testBit j <;> simp[ha,hb] at this⊢
theorem zjA {k a b:Nat} (ha:a<4294967296) (hb:b<4294967296) (h:crcN k a=crcN k b):a=b:=by
 refine xor_zero (zhz k (Nat.xor_lt_two_pow (n:=32) ha hb) ?_);rw[zjy,h,Nat.xor_self]
theorem zdn {a b c:Nat} (h:a^^^b=a^^^c):b=c:=by
 have:=congrArg (fun x=>a^^^x) h;simp only[←Nat.xor_assoc,Nat.xor_self,Nat.zero_xor] at this;exact this
theorem zjC {x y b:Nat} (hx:x<4294967296) (hy:y<4294967296) (hb:b<256) (h:zcs x b=zcs y b):x=y:=by
 have:=zjA (Nat.xor_lt_two_pow (n:=32) hx (show b<2^32 by omega)) (Nat.xor_lt_two_pow (n:=32) hy (show b<2^32 by omega)) h;rw[Nat.xor_comm x,Nat.xor_comm y] at this;exact zdn this
theorem zju:∀ (l:List UInt8) {x y:Nat},x<4294967296→y<4294967296→l.foldl (fun x c=>zcs x c.toNat) x=l.foldl (fun x c=>zcs x c.toNat) y→x=y
 | [],_,_,_,_,h=>h
 | c::l,_,_,hx,hy,h=>zjC hx hy c.toNat_lt (zju l (zcW hx c.toNat_lt) (zcW hy c.toNat_lt) h)
theorem zgY {l r:List UInt8} {c d:UInt8} (h:zaT (l++c::r)=zaT (l++d::r)):c=d:=by
 unfold zaT at h;rw[Nat.xor_comm,Nat.xor_comm (zbI (l++d::r))] at h;have h:=zdn h;unfold zbI at h;rw[List.foldl_append,List.foldl_append,List.foldl_cons,List.foldl_cons] at h;have hl:=zd7 l;unfold zbI at hl;have h2:=zju r (zcW hl c.toNat_lt) (zcW hl d.toNat_lt) h;have h3:=zjA (Nat.xor_lt_two_pow (n:=32) hl (show c.toNat<2^32 by have:=c.toNat_lt;omega)) (Nat.xor_lt_two_pow (n:=32) hl (show d.toNat<2^32 by have:=d.toNat_lt;omega)) h2;exact UInt8.toNat_inj.1 (zdn h3)
def zce (x:Nat) (l:List Bool):Nat:=l.foldl (fun x d=>zaD (x^^^d.toNat)) x
def za2 (n:Nat):List Bool:=(List.range 8).map n.testBit
theorem zil (c:Nat):zaD (2*c)=c:=by
 unfold zaD;rw[if_neg (by omega),Nat.xor_zero,Nat.shiftRight_eq_div_pow];omega
theorem zlH (b:Nat):b=(b.testBit 0).toNat^^^(2*(b/2)):=by
 apply Nat.eq_of_testBit_eq;intro j;rw[Nat.testBit_xor];cases j with
 | zero=>
  have h:(2*(b/2)).testBit 0=false:=by simp[Nat.testBit_zero]
  rw[h,Bool.xor_false];cases e:b.testBit 0 <;> rfl
 | succ j=>
  have h:(b.testBit 0).toNat.testBit (j+1)=false:=by
   cases b.testBit 0
   ·exact Nat.zero_testBit _
   ·exact Nat.testBit_lt_two_pow (show 1<2^(j+1) by have:=Nat.one_le_two_pow (n:=j);rw[Nat.pow_succ];omega)
  rw[h,Bool.false_xor,Nat.testBit_succ,Nat.testBit_succ]
  congr 1
  omega
theorem zjz:∀ (k x b:Nat),b<2^k→crcN k (x^^^b)=zce x ((List.range k).map b.testBit)
 | 0,x,b,h=>by
  have:b=0:=by simpa using h
  subst this;simp[crcN,zce]
 | k+1,x,b,h=>by
  show crcN k (zaD (x^^^b))=_
  rw[show x^^^b=(x^^^(b.testBit 0).toNat)^^^(2*(b/2)) by rw[Nat.xor_assoc,←zlH],zfG,zil,zjz k _ (b/2) (by rw[Nat.pow_succ] at h;omega),List.range_succ_eq_map,List.map_cons,List.map_map];unfold zce;rw[List.foldl_cons]
  congr 1
  apply List.map_congr_left;intro j _;simp[Nat.testBit_succ]
theorem crcByte_ser (x b:Nat) (h:b<256):zcs x b=zce x (za2 b):=zjz 8 x b h
theorem zgM (x:Nat) (l r:List Bool):zce x (l++r)=zce (zce x l) r:=by simp[zce,List.foldl_append]
def zaN (l:List UInt8):List Bool:=l.flatMap fun c=>za2 c.toNat
theorem zb8 (l:List UInt8):(zaN l).length=8*l.length:=by
 unfold zaN
 induction l with
 | nil=>rfl
 | cons c l ih=>rw[List.flatMap_cons,List.length_append,ih,List.length_cons];simp[za2];omega
theorem zgV (l:List UInt8) (c:UInt8):zaN (l++[c])=zaN l++za2 c.toNat:=by simp[zaN]
theorem zkU (l:List UInt8):zbI l=zce 4294967295 (zaN l):=by
 unfold zbI zaN;generalize 4294967295=x
 induction l generalizing x with
 | nil=>rfl
 | cons c l ih=>rw[List.foldl_cons,ih,List.flatMap_cons,zgM,crcByte_ser _ _ c.toNat_lt]
def zbu (b:List Bool) (i:Nat):List Bool:=b.set i (!(b[i]?.getD false))
def powersL:List Nat:=[28,27,26,25,23,22,20,19,18,14,13,11,10,9,8,6,0]
def zfU (b:List Bool) (i:Nat):List Bool:=if b[i]?.getD false then(powersL.map fun p=>i+32-p).foldl zbu b else b
def divs (b:List Bool):Nat→List Bool
 | 0=>b
 | i+1=>zfU (divs b i) i
theorem zgD (b:List Bool) (i:Nat):(zbu b i).length=b.length:=by simp[zbu]
theorem zd3:∀ (l:List Nat) (b:List Bool),(l.foldl zbu b).length=b.length
 | [],_=>rfl
 | i::l,b=>by rw[List.foldl_cons,zd3 l,zgD]
theorem zjt (b:List Bool) (i:Nat):(zfU b i).length=b.length:=by
 unfold zfU
 split
 ·exact zd3 _ _
 ·rfl
theorem zeV (b:List Bool):∀ i,(divs b i).length=b.length
 | 0=>rfl
 | i+1=>by rw[divs,zjt,zeV b i]
theorem zkN (b:List Bool) (i t:Nat) (h:t<b.length):(zbu b i)[t]?.getD false=(b[t]?.getD false ^^ decide (t=i)):=by
 unfold zbu;rw[List.getElem?_set];by_cases e:i=t
 ·subst e
  rw[if_pos rfl,if_pos h];simp
 ·rw[if_neg e]
  have:¬ t=i:=fun h=>e h.symm;simp[this]
theorem zfi:∀ (l:List Nat) (b:List Bool) (t:Nat),l.Nodup→t<b.length→(l.foldl zbu b)[t]?.getD false=(b[t]?.getD false ^^ decide (t∈l))
 | [],b,t,_,_=>by simp
 | i::l,b,t,hn,h=>by
  rw[List.nodup_cons] at hn;rw[List.foldl_cons,zfi l _ t hn.2 (by rw[zgD];exact h),zkN _ _ _ h,Bool.xor_assoc]
  congr 1
  by_cases e:t=i
  ·subst e
   simp[hn.1]
  ·simp[e]
theorem zkl:∀ j,j<32→decide (∃ p∈powersL,j+1=32-p)=crcP.testBit j:=by decide
theorem zh3 (i:Nat):(powersL.map fun p=>i+32-p).Nodup:=by
 rw[List.Nodup,List.pairwise_map];have h:powersL.Pairwise fun a b=>b<a:=by decide
 have h2:∀ p∈powersL,p≤28:=by decide
 refine List.Pairwise.imp_of_mem ?_ h;intro a b ha hb hab e;have:=h2 a ha;have:=h2 b hb;omega
theorem zhx:∀ (l:List Bool) {x:Nat},x<4294967296→zce x l<4294967296
 | [],_,h=>h
 | d::l,_,h=>zhx l (zet (Nat.xor_lt_two_pow (n:=32) h (by cases d <;> decide)))
theorem zjs (D:List Bool) (b:List Bool) (hb:b.length=D.length) (h0:∀ t,t<D.length→b[t]?.getD false=(D[t]?.getD false ^^ (4294967295:Nat).testBit t)):∀ i,i+32≤D.length → ∀ t,i≤t→t<D.length→(divs b i)[t]?.getD false=(D[t]?.getD false ^^ (zce 4294967295 (D.take i)).testBit (t-i))
 | 0,_,t,_,ht=>by
  rw[divs,h0 t ht];rfl
 | i+1,hi,t,hit,ht=>by
  have ih:=zjs D b hb h0 i (by omega);have hlen:=zeV b i;have hid:=ih i (Nat.le_refl _) (by omega);have hit':=ih t (by omega) ht;have hlt:=zhx (D.take i) (show(4294967295:Nat)<4294967296 by omega);have hD:zce 4294967295 (D.take (i+1))=zaD (zce 4294967295 (D.take i)^^^(D[i]?.getD false).toNat):=by
   rw[List.take_succ_eq_append_getElem (by omega),zgM,List.getElem?_eq_getElem (by omega)];rfl
  have hdi:∀ j,0<j→((D[i]?.getD false).toNat).testBit j=false:=by
   intro j hj;cases D[i]?.getD false
   ·exact Nat.zero_testBit _
   ·exact Nat.testBit_lt_two_pow (show 1<2^j by have:=Nat.pow_le_pow_right (n:=2) (by omega) hj;omega)
  have hd0:((D[i]?.getD false).toNat).testBit 0=D[i]?.getD false:=by cases D[i]?.getD false <;> rfl
  rw[hD,zb3,Nat.testBit_xor,Nat.testBit_xor,hdi _ (by omega),Bool.xor_false,hd0,show t-(i+1)+1=t-i by omega];rw[Nat.sub_self] at hid;rw[divs];unfold zfU;rw[hid,Bool.xor_comm (D[i]?.getD false)];generalize zce 4294967295 (D.take i)=R at *;by_cases ho:(R.testBit 0 ^^ D[i]?.getD false)=true
  ·rw[if_pos ho,zfi _ _ _ (zh3 i) (by omega),hit',ho,Bool.true_and]
   rw[Bool.xor_assoc]
   congr 2
   by_cases hj:t-(i+1)<32
   ·rw[←zkl _ hj]
    have hp:∀ p∈powersL,p≤28:=by decide
    apply Bool.eq_iff_iff.2;rw[decide_eq_true_eq,decide_eq_true_eq,List.mem_map]
    constructor
    ·rintro⟨p,h1,h2⟩
     have:=hp p h1;exact⟨p,h1,by omega⟩
    ·rintro⟨p,h1,h2⟩
     have:=hp p h1;exact⟨p,h1,by omega⟩
   ·rw[Nat.testBit_lt_two_pow (show crcP<2^(t-(i+1)) from Nat.lt_of_lt_of_le (show crcP<2^32 by decide) (Nat.pow_le_pow_right (by omega) (by omega)))]
    rw[decide_eq_false_iff_not,List.mem_map];rintro⟨p,h1,h2⟩;omega
  ·rw[if_neg ho,hit']
   rw[Bool.not_eq_true] at ho;rw[ho,Bool.false_and,Bool.xor_false]
theorem zm9 (y:Nat) (m:Nat):y >>> m=2*(y >>> (m+1))+(y.testBit m).toNat:=by
 rw[Nat.shiftRight_eq_div_pow,Nat.shiftRight_eq_div_pow,Nat.pow_succ,←Nat.div_div_eq_div_mul,Nat.testBit,Nat.shiftRight_eq_div_pow,Nat.and_comm,Nat.and_one_is_mod];have h:=Nat.div_add_mod (y/2^m) 2;have h2:=Nat.mod_two_eq_zero_or_one (y/2^m);rcases h2 with e | e
 ·rw[e] at h⊢;simp;omega
 ·rw[e] at h⊢;simp;omega
theorem zi1 (t:Nat):(4294967295:Nat).testBit t=decide (t<32):=Nat.testBit_two_pow_sub_one 32 t
def zbh (D:List Bool) (k:Nat):List Bool:=(List.range k).foldl zbu D
theorem zjh (D:List Bool) (k:Nat):zbh D (k+1)=zbu (zbh D k) k:=by
 unfold zbh;rw[List.range_succ,List.foldl_append];rfl
theorem zdy (D:List Bool) (k:Nat):(zbh D k).length=D.length:=zd3 _ _
theorem zkO (D:List Bool) (t:Nat) (h:t<D.length):(zbh D 32)[t]?.getD false=(D[t]?.getD false ^^ (4294967295:Nat).testBit t):=by
 unfold zbh;rw[zfi _ _ _ List.nodup_range h,zi1];simp
def zc5 (l:List UInt8):List Bool:=zaN l++List.replicate 32 false
theorem zea (l:List UInt8):(zc5 l).length=8*l.length+32:=by simp[zc5,zb8]
def topN (b:List Bool):Nat→Nat
 | 0=>0
 | k+1=>topN b k*2+(!(b[b.length-1-k]?.getD false)).toNat
theorem ziC (l:List UInt8):∀ k,k≤32→topN (divs (zbh (zc5 l) 32) (8*l.length)) k=zaT l >>> (32-k)
 | 0,_=>by
  rw[Nat.shiftRight_eq_div_pow,Nat.div_eq_of_lt (zcI l)];rfl
 | k+1,hk=>by
  have hlen:(divs (zbh (zc5 l) 32) (8*l.length)).length=8*l.length+32:=by rw[zeV,zdy,zea]
  rw[topN,ziC l k (by omega),zm9 _ (32-(k+1)),show 32-(k+1)+1=32-k by omega,Nat.mul_comm,hlen]
  congr 2
  rw[zjs (zc5 l) (zbh (zc5 l) 32) (zdy _ _) (fun t ht=>zkO _ t ht) (8*l.length) (by rw[zea];omega) _ (by omega) (by rw[zea];omega)];have h1:(zc5 l)[8*l.length+32-1-k]?.getD false=false:=by
   unfold zc5;rw[List.getElem?_append_right (by rw[zb8];omega),List.getElem?_replicate]
   split <;> rfl
  have h2:(zc5 l).take (8*l.length)=zaN l:=by
   unfold zc5;rw[←zb8,List.take_left'];rfl
  rw[h1,h2,Bool.false_xor,←zkU];unfold zaT;rw[Nat.testBit_xor,zi1,show 8*l.length+32-1-k-8*l.length=32-(k+1) by omega,decide_eq_true (show 32-(k+1)<32 by omega),Bool.xor_true]
theorem topN_32 (l:List UInt8):topN (divs (zbh (zc5 l) 32) (8*l.length)) 32=zaT l:=by
 rw[ziC l 32 (Nat.le_refl _)];rfl
def zhr (n:Nat):List UInt8:=[UInt8.ofNat n,UInt8.ofNat (n/256),UInt8.ofNat (n/65536),UInt8.ofNat (n/16777216)]
theorem zdY {a b:Nat} (h:UInt8.ofNat a=UInt8.ofNat b):a%256=b%256:=by
 have:=congrArg UInt8.toNat h;simpa using this
theorem zmz {a b:Nat} (ha:a<4294967296) (hb:b<4294967296) (h:zhr a=zhr b):a=b:=by
 unfold zhr at h;injection h with h0 h
 injection h with h1 h
 injection h with h2 h
 injection h with h3 _
 have:=zdY h0;have:=zdY h1;have:=zdY h2;have:=zdY h3;omega
def crcF (l:List UInt8):List UInt8:=zhr (zaT l)
theorem zeW (l:List UInt8):(crcF l).length=4:=rfl
theorem zjB {l r:List UInt8} {c d:UInt8} (h:crcF (l++c::r)=crcF (l++d::r)):c=d:=
 zgY (zmz (zcI _) (zcI _) h)
end
section
open Go.RowKit
theorem zgT {a b:Nat} (ha:a<4294967296) (hb:b<4294967296):bits .xor .u32 (a:Int) (b:Int)=((a^^^b:Nat):Int):=by
 have h:=Nat.xor_lt_two_pow (n:=32) ha hb;unfold bits;simp;have h32:(2:Nat)^IntKind.u32.bits=4294967296:=rfl;rw[h32,Nat.mod_eq_of_lt ha,Nat.mod_eq_of_lt hb]
 show(((a^^^b:Nat):Int)).emod 4294967296=_
 exact Int.emod_eq_of_lt (by omega) (by omega)
theorem and_u32 {a:Nat} (ha:a<4294967296):bits .and .u32 (a:Int) 1=((a%2:Nat):Int):=by
 unfold bits;simp;have h32:(2:Nat)^IntKind.u32.bits=4294967296:=rfl;rw[h32,Nat.mod_eq_of_lt ha];rw[Nat.and_one_is_mod]
 show(((a%2:Nat):Int)).emod 4294967296=_
 exact Int.emod_eq_of_lt (by omega) (by omega)
theorem zjw {x:Nat} (h:x%2=1):zaD x=(x/2)^^^crcP:=by unfold zaD;rw[if_pos h];rfl
theorem zkT {x:Nat} (h:¬ x%2=1):zaD x=x/2:=by unfold zaD;rw[if_neg h,Nat.xor_zero];rfl
def Reg (w:World) (q:Nat) (x:Nat):Ending→World→Prop:=fun en w'=>en=.returned (.tuple #[])∧Blk w' q 220 #[.int .u32 x]∧Keep (fun g=>g=q) w w'
theorem zhW {w:World} {q:Nat} {v u:Value} {t:TypeId} (h:Blk w q t #[v]):Blk (w.setCell ⟨q,0,none⟩ u) q t #[u]∧Keep (fun g=>g=q) w (w.setCell ⟨q,0,none⟩ u):=
 ⟨h.set 0 u,(Keep.refl (fun g=>g=q) w).setCell (p:=⟨q,0,none⟩) (.inl rfl) u⟩
theorem zmI (w:World) (q x:Nat) (hx:x<4294967296) (h:Blk w q 220 #[.int .u32 x]):Calls Tryz.prog 173 #[.pointer (some ⟨q,0,none⟩)] w (Reg w q (zaD x)):=by
 have c0:w.cell? ⟨q,0,none⟩=some (.int .u32 (x:Int)):=h.cell (i:=0) rfl;have lq:=h.lt;have fz:=h.frozen 0;have e2:=zgT (a:=x/2) (b:=crcP) (by omega) (by decide);rw[show((crcP:Nat):Int)=2197175160 from rfl,show((x/2:Nat):Int)=(x:Int)/2 by omega] at e2;have e1:=and_u32 hx;rw[show((x%2:Nat):Int)=(x:Int)%2 by omega] at e1;have h1:=zhW (u:=.int .u32 ((x:Int)/2)) h;have h2:=zhW (u:=.int .u32 (((x/2)^^^crcP:Nat):Int)) h1.1;have HB1:=hid h1.1;have HK1:=hid h1.2;have HB2:=hid h2.1;have HK2:=hid (h1.2.trans h2.2);clear h1 h2;by_cases ho:x%2=1
 ·have HS:=hid (zjw ho)
  have d1:((x:Int)%2==1)=true:=by simp;omega
  clear h ho hx;go_enter Tryz.func173,Tryz.ntmps173;go_wp2_with fail
  go_end0
  rw[←HS.out];rw[←HS.out] at HB2 HK2;exact⟨rfl,HB2.out,HK2.out⟩
 ·have HS:=hid (zkT ho)
  have d1:((x:Int)%2==1)=false:=by simp;omega
  clear h ho hx HB2 HK2;rw[show((x:Int)/2)=((x/2:Nat):Int) by omega,←HS.out] at HB1 HK1;go_enter Tryz.func173,Tryz.ntmps173;go_wp2_with fail
  go_end0
  rw[show((x:Int)/2)=((x/2:Nat):Int) by omega,←HS.out];exact⟨rfl,HB1.out,HK1.out⟩
theorem takeD {s:ByteArray} {k:Nat} (h:k<s.size):s.data.toList.take (k+1)=s.data.toList.take k++[s[k]]:=by
 have hl:k<s.data.toList.length:=by rw[Array.length_toList];exact h
 rw[List.take_succ_eq_append_getElem hl];rfl
theorem zmH (w:World) (s:ByteArray) (hs:s.size≤1000000):Calls Tryz.prog 146 #[.string s] w (Ret (.int .i64 (zaT s.data.toList)) w):=by
 have HBit:=fun W q x hx h=>hid (zmI W q x hx h);have HB0:=hid (Blk.new w 220 #[.int .u32 4294967295]);have HE0:=hid (Ext.alloc w (.cells #[.int .u32 4294967295] 220));go_enter Tryz.func146,Tryz.ntmps146;go_wp2_with fail
 obtain⟨q,hq⟩:∃ q,q=w.heap.size:=⟨_,rfl⟩
 rw[←hq] at HB0⊢;generalize w.alloc (.cells #[.int .u32 4294967295] 220)=w0 at HB0 HE0⊢;have hqn:w.heap.size≤q:=by omega
 clear hq;go_loopw [9] (fun i wr=>∃ k:Nat,k≤s.size∧i=.int .i64 k∧Hid (Blk wr q 220 #[.int .u32 (zbI (s.data.toList.take k))])∧Hid (Ext w wr)) (fun i _=>s.size-(intOf i).toNat)
 case atStart=>exact⟨0,by omega,rfl,HB0.out,HE0.out⟩
 case round=>
  obtain⟨k,hk,rfl,hB,hE⟩:=hrel;clear HB0 HE0;by_cases hlt:k<s.size
  ·have e1:decide ((k:Int)<s.size)=true:=decide_eq_true (by omega)
   have e1':decide (k<s.size)=true:=decide_eq_true hlt;have HS:Hid (zbI (s.data.toList.take (k+1))=zcs (zbI (s.data.toList.take k)) s[k].toNat):=by unfold Hid;rw[takeD hlt,zjx]
   have hx:=zd7 (s.data.toList.take k);have hb256:s[k].toNat<256:=UInt8.toNat_lt _;generalize zbI (s.data.toList.take k)=x at hB HS hx;have c0:wr.cell? ⟨q,0,none⟩=some (.int .u32 (x:Int)):=hB.out.cell (i:=0) rfl;have lq:=hB.out.lt;have fz:=hB.out.frozen 0;have eX:=zgT (a:=x) (b:=s[k].toNat) hx (by omega);go_wp2_with fail
   refine zcM (Rel.ext) (pre:=?pre55) (z:=?z55) ?hpre55 ?hz55 (Ext.steady wr) (by kernel_rfl) (by kernel_rfl) (by kernel_rfl) (by kernel_rfl) ?_
   case hpre55=>(simp only[List.dropLast_cons_cons,List.dropLast_singleton];first | done | exact rfl)
   case hz55=>(simp only[List.getLast?_cons_cons,List.getLast?_singleton];first | done | exact rfl)
   repeat (first
    | (refine AWq.val rfl rfl rfl rfl (fun K hK=>?_);go_big_quiet_op;refine hK _ ?_;clear hK K)
    | (refine AWq.skip rfl rfl rfl ?_;simp only[Act.put,zq6,zq7,zq8]))
   refine AWq.last rfl rfl rfl (fun w2 x2=>?_);simp only[zt,Act.put,zq6,zq7,zq8];have HB2:=hid (hB.out.ext x2);have c2:w2.cell? ⟨q,0,none⟩=some (.int .u32 (x:Int)):=HB2.out.cell (i:=0) rfl;have lq2:=HB2.out.lt;have fz2:=HB2.out.frozen 0;have h1:=zhW (u:=.int .u32 ((x^^^s[k].toNat:Nat):Int)) HB2.out;have HB3:=hid h1.1;have HE3:=hid (h1.2.toExt (hE.out.trans x2) (fun g hg=>by subst hg;exact hqn));have hx3:crcN 0 (x^^^s[k].toNat)<4294967296:=Nat.xor_lt_two_pow (n:=32) hx (by omega);have HS2:Hid (zbI (s.data.toList.take (k+1))=crcN 8 (x^^^s[k].toNat)):=HS.out;clear h1 c0 lq fz hB HS;go_wp2_with fail
   clear eX;generalize x^^^s[k].toNat=y at HB3 HE3 hx3 HS2⊢;generalize w2.setCell ⟨q,0,none⟩ (.int .u32 (y:Int))=w3 at HB3 HE3⊢;clear c2 fz2 lq2 HB2 x2;go_loopw [18] (fun jv wr3=>∃ j:Nat,j≤8∧jv=.int .i64 j∧Hid (Blk wr3 q 220 #[.int .u32 (crcN j y)])∧Hid (Ext w wr3)) (fun jv _=>8-(intOf jv).toNat)
   case atStart=>exact⟨0,by omega,rfl,HB3.out,HE3.out⟩
   case round=>
    obtain⟨j,hj,rfl,hBj,hEj⟩:=hrel;clear HB3 HE3;by_cases hj8:j<8
    ·have d1:decide ((j:Int)<8)=true:=decide_eq_true (by omega)
     have hlj:crcN j y<4294967296:=zim j hx3;have HSj:=hid (zhA j y);generalize crcN j y=z at hBj hlj HSj;go_wp2_with fail
     refine((HBit _ _ _ hlj hBj.out).out).mono ?_;rintro en w4 ⟨rfl,hb4,hk4⟩;have HB4:=hid hb4;have HE4:=hid (hk4.toExt hEj.out (fun g hg=>by subst hg;exact hqn));clear hb4 hk4;go_wp2_with fail
     go_roundw
     case rel=>exact⟨j+1,by omega,by go_num,by rw[HSj.out];exact HB4.out,HE4.out⟩
     case measure=>simp[intOf];omega
    ·obtain rfl:j=8:=by omega
     have d1:decide (((8:Nat):Int)<8)=false:=by decide
     go_wp2_with fail
     go_roundw
     case rel=>exact⟨k+1,by omega,by go_num,by rw[HS2.out];exact hBj.out,hEj.out⟩
     case measure=>simp[intOf];omega
  ·obtain rfl:k=s.size:=by omega
   rw[List.take_of_length_le (by rw[Array.length_toList];exact Nat.le_refl _)] at hB;have HS:Hid (4294967295^^^zbI s.data.toList=zaT s.data.toList):=Nat.xor_comm _ _;have hx:=zd7 s.data.toList;have hy:=zcI s.data.toList;generalize zbI s.data.toList=x at hB HS hx;have eX:=zgT (a:=4294967295) (b:=x) (by omega) hx;rw[HS.out,show((4294967295:Nat):Int)=IntKind.u32.max from rfl] at eX;have c0:wr.cell? ⟨q,0,none⟩=some (.int .u32 (x:Int)):=hB.out.cell (i:=0) rfl;have lq:=hB.out.lt;clear hlt hB;go_wp2_with fail
   go_ret;exact⟨by
    show Ending.returned (Value.int .i64 (wrap64 (zaT s.data.toList:Int)))=_
    rw[IntWalk.wrap64_in _ (by omega)],hE.out⟩
def zcU (n:Nat):ByteArray:=⟨(zhr n).toArray⟩
theorem zhB (w:World) (a b c d:Int):(convert 48 9 (.slice (some ⟨w.heap.size,0,none⟩) 4 4)).run Tryz.prog (w.alloc (.cells #[.int .u8 a,.int .u8 b,.int .u8 c,.int .u8 d] 5))=.ok (.string ⟨#[UInt8.ofNat a.toNat,UInt8.ofNat b.toNat,UInt8.ofNat c.toNat,UInt8.ofNat d.toNat]⟩) (w.alloc (.cells #[.int .u8 a,.int .u8 b,.int .u8 c,.int .u8 d] 5)):=by
 rw[run_convert_bytes_string _ _ _ 5 _ _ _ Tryz.underlying48 Tryz.underlying5 Tryz.underlying9];rw[run_bytesToString _ _ _ _ [a,b,c,d] (by simp[go_sem])];rfl
theorem ze1 {a b:Nat} (h:a%256=b%256):UInt8.ofNat a=UInt8.ofNat b:=by
 apply UInt8.toNat_inj.1;simpa using h
theorem zgC {y:Nat} (hy:y<4294967296):(⟨#[UInt8.ofNat ((y:Int)%256).toNat,UInt8.ofNat ((y:Int)/256%256).toNat,UInt8.ofNat ((y:Int)/65536%256).toNat,UInt8.ofNat ((y:Int)/16777216).toNat]⟩:ByteArray)=zcU y:=by
 unfold zcU zhr;rw[ze1 (a:=((y:Int)%256).toNat) (b:=y) (by omega),ze1 (a:=((y:Int)/256%256).toNat) (b:=y/256) (by omega),ze1 (a:=((y:Int)/65536%256).toNat) (b:=y/65536) (by omega),ze1 (a:=((y:Int)/16777216).toNat) (b:=y/16777216) (by omega)]
theorem zgL (w:World) (s:ByteArray) (hs:s.size≤1000000):Calls Tryz.prog 108 #[.string s] w (Ret (.string (zcU (zaT s.data.toList))) w):=by
 have HSum:=fun W=>hid (zmH W s hs);have hy:=zcI s.data.toList;generalize zaT s.data.toList=y at HSum hy⊢;go_enter Tryz.func108,Tryz.ntmps108;go_wp2_with (go_at_call 146;refine((HSum _).out).mono ?_;rintro e w1 ⟨rfl,x1⟩)
 rw[zhB,zgC hy];go_wp2_with fail
 go_ret;exact⟨rfl,x1.alloc' _⟩
def chkZ (t f:ByteArray):Int:=if f.size≠4 then 5 else if f=zcU (zaT t.data.toList) then 0 else 7
theorem zjv (w:World) (s f:ByteArray) (hs:s.size≤1000000):Calls Tryz.prog 63 #[.string s,.string f] w (Ret (.int .i64 (chkZ s f)) w):=by
 have H4:=fun W=>hid (zgL W s hs);unfold chkZ;generalize zcU (zaT s.data.toList)=t at H4⊢;by_cases h4:f.size≠4
 ·rw[if_pos h4]
  have d0:((f.size:Int) != 4)=true:=by simp;omega
  clear h4;go_enter Tryz.func63,Tryz.ntmps63;go_wp2_with fail
  go_ret;exact⟨rfl,Ext.refl _⟩
 ·rw[if_neg h4]
  have d0:((f.size:Int) != 4)=false:=by simp;omega
  clear h4;by_cases he:f=t
  ·rw[if_pos he]
   have d1:(f.toList==t.toList)=true:=by rw[he];simp
   clear he;go_enter Tryz.func63,Tryz.ntmps63;go_wp2_with (go_at_call 108;refine((H4 _).out).mono ?_;rintro e w1 ⟨rfl,x1⟩)
   go_ret;exact⟨rfl,x1⟩
  ·rw[if_neg he]
   have d1:(f.toList==t.toList)=false:=by
    rw[beq_eq_false_iff_ne];intro e;rw[Lib.toList_data,Lib.toList_data] at e;exact he (ByteArray.ext (Array.ext' e))
   clear he;go_enter Tryz.func63,Tryz.ntmps63;go_wp2_with (go_at_call 108;refine((H4 _).out).mono ?_;rintro e w1 ⟨rfl,x1⟩)
   go_ret;exact⟨rfl,x1⟩
end
section
def zat (b:List UInt8):List UInt8:=lebL b.length++(b++crcF b)
theorem zhk:∀ (a b:Nat),a≤b→(lebL a).length≤(lebL b).length:=by
 intro a
 induction a using Nat.strongRecOn with
 | ind a ih=>
  intro b h;by_cases ha:127<a
  ·rw[zcw ha,zcw (show 127<b by omega),List.length_cons,List.length_cons]
   have:=ih (a/128) (by omega) (b/128) (Nat.div_le_div_right h);omega
  ·rw[zaL (by omega)]
   exact zcv b
theorem zbU (b:List UInt8):(zat b).length=(lebL b.length).length+b.length+4:=by
 unfold zat;rw[List.length_append,List.length_append,zeW];omega
theorem zmt {b c:List UInt8} (h:(zat b).length=(zat c).length):b.length=c.length:=by
 rw[zbU,zbU] at h;rcases Nat.lt_trichotomy b.length c.length with hl | hl | hl
 ·have:=zhk _ _ (Nat.le_of_lt hl);omega
 ·exact hl
 ·have:=zhk _ _ (Nat.le_of_lt hl);omega
theorem ziF {b b' l r:List UInt8} {c d:UInt8} (hn:b.length=b'.length) (h:b++crcF b=l++c::r) (h':b'++crcF b'=l++d::r):c=d:=by
 by_cases hl:b.length≤l.length
 ·have e:l=l.take b.length++l.drop b.length:=(List.take_append_drop _ _).symm
  rw[e,List.append_assoc] at h h';have h1:=List.append_inj h (by rw[List.length_take];omega);have h2:=List.append_inj h' (by rw[List.length_take];omega);have hb:b'=b:=h2.1.trans h1.1.symm;have e1:=h1.2;have e2:=h2.2;rw[hb,e1] at e2;have:=List.append_cancel_left e2;injection this
 ·have e:b=b.take l.length++b.drop l.length:=(List.take_append_drop _ _).symm
  have hlt:l.length<b.length:=by omega
  have h1:b.take l.length=l:=by
   have:=congrArg (List.take l.length) h;rw[List.take_append_of_le_length (by omega),List.take_left'] at this
   ·exact this
   ·rfl
  have h2:b'.take l.length=l:=by
   have:=congrArg (List.take l.length) h';rw[List.take_append_of_le_length (by omega),List.take_left'] at this
   ·exact this
   ·rfl
  have e3:b.drop l.length++crcF b=c::r:=by
   have:=congrArg (List.drop l.length) h;rw[List.drop_append_of_le_length (by omega),List.drop_left'] at this
   ·exact this
   ·rfl
  have e4:b'.drop l.length++crcF b'=d::r:=by
   have:=congrArg (List.drop l.length) h';rw[List.drop_append_of_le_length (by omega),List.drop_left'] at this
   ·exact this
   ·rfl
  cases hx:b.drop l.length with
  | nil=>have:=congrArg List.length hx;rw[List.length_drop] at this;simp at this;omega
  | cons x t=>
   cases hy:b'.drop l.length with
   | nil=>have:=congrArg List.length hy;rw[List.length_drop] at this;simp at this;omega
   | cons y u=>
    rw[hx,List.cons_append] at e3;rw[hy,List.cons_append] at e4;injection e3 with e5 e6
    injection e4 with e7 e8
    have hlx:=congrArg List.length hx;have hly:=congrArg List.length hy;rw[List.length_drop,List.length_cons] at hlx hly;have e9:=List.append_inj (e6.trans e8.symm) (by omega);refine zjB (l:=l) (r:=t) ?_;have eb:b=l++c::t:=by rw[←e5,←hx];conv=>lhs;rw[←List.take_append_drop l.length b,h1]
    have eb':b'=l++d::t:=by rw[e9.1,←e7];rw[←hy];conv=>lhs;rw[←List.take_append_drop l.length b',h2]
    rw[←eb,←eb',e9.2]
theorem zic {b b' l r:List UInt8} {c d:UInt8} (h:zat b=l++c::r) (h':zat b'=l++d::r):c=d:=by
 have hn:b.length=b'.length:=zmt (by rw[h,h'];simp);unfold zat at h h';rw[←hn] at h';generalize lebL b.length=H at h h';by_cases hl:l.length<H.length
 ·have h1:=congrArg (fun s=>s[l.length]?) h
  have h2:=congrArg (fun s=>s[l.length]?) h';simp only[List.getElem?_append_left hl] at h1 h2;rw[List.getElem?_append_right (Nat.le_refl _),Nat.sub_self] at h1 h2;have:=h1.symm.trans h2;simp at this;exact this
 ·have h1:H=l.take H.length:=by
   have:=congrArg (List.take H.length) h;rw[List.take_append_of_le_length (by omega),List.take_length,List.take_append_of_le_length (by omega)] at this;exact this
  have e1:b++crcF b=l.drop H.length++c::r:=by
   have:=congrArg (List.drop H.length) h;rw[List.drop_left,List.drop_append_of_le_length (by omega)] at this;exact this
  have e2:b'++crcF b'=l.drop H.length++d::r:=by
   have:=congrArg (List.drop H.length) h';rw[List.drop_left,List.drop_append_of_le_length (by omega)] at this;exact this
  exact ziF hn e1 e2
end
section
open Go.RowKit
theorem takee_c (w:World) (q:Nat) (s:ByteArray) (e:Int) (k:Nat) (h:InAt w q s e) (h0:e≠0) (hk:k≤9223372036854775807):Calls Tryz.prog 109 #[.pointer (some ⟨q,0,none⟩),.int .i64 k] w (fun en w'=>en=.returned (.string ⟨#[]⟩)∧Keep (fun g=>g=q) w w'∧InAt w' q s e):=by
 have HLf:=fun W (s':ByteArray) (e':Int) (h':InAt W q s' e')=>hid (zgx W q s' e' h');have HEr:=fun W (s':ByteArray) (e':Int) (h':InAt W q s' e')=>hid (zhv W q s' e' h');have HFa:=fun W (s':ByteArray) (e' k':Int) (h':InAt W q s' e')=>hid (zgH W q s' e' k' h');have H:=hid h;clear h;have hd:(e != 0)=true:=by simp[h0]
 have hl:zei s e=0:=if_neg h0;have hf:zhu e 5=e:=if_neg h0;have HL0:=fun W (h':InAt W q s e)=>HLf W s e h';have HF0:=fun W (h':InAt W q s e)=>HFa W s e 5 h';rw[hl] at HL0;rw[hf] at HF0;clear hl hf HLf HFa h0;rcases k with _ | k
 ·go_enter Tryz.func109,Tryz.ntmps109
  go_wp2_with fail
  refine((HL0 _ H.out).out).mono ?_;rintro e w1 ⟨rfl,x1⟩;have H1:=hid (H.out.ext x1);have K1:=hid (Keep.of_ext (S:=fun g=>g=q) x1);clear x1;go_wp2_with fail
  refine((HEr _ _ _ H1.out).out).mono ?_;rintro e w3 ⟨rfl,x3⟩;have H3:=hid (H1.out.ext x3);have K3:=hid (K1.out.ext x3);clear x3;go_wp2_with fail
  go_ret;exact⟨rfl,K3.out,H3.out⟩
 ·have d0:decide ((0:Int)<(k:Int)+1)=true:=decide_eq_true (by omega)
  go_enter Tryz.func109,Tryz.ntmps109;go_wp2_with fail
  refine((HL0 _ H.out).out).mono ?_;rintro e w1 ⟨rfl,x1⟩;have H1:=hid (H.out.ext x1);have K1:=hid (Keep.of_ext (S:=fun g=>g=q) x1);clear x1;go_wp2_with fail
  refine((HF0 _ H1.out).out).mono ?_;rintro e w2 ⟨rfl,k2,h2⟩;have H2:=hid h2;have K2:=hid (K1.out.trans k2);clear k2 h2;go_wp2_with fail
  refine((HEr _ _ _ H2.out).out).mono ?_;rintro e w3 ⟨rfl,x3⟩;have H3:=hid (H2.out.ext x3);have K3:=hid (K2.out.ext x3);clear x3;go_wp2_with fail
  go_ret;exact⟨rfl,K3.out,H3.out⟩
theorem tx_c (w:World) (q:Nat) (s:ByteArray) (h:InAt w q s 0) (hs:s.size≤1000000):Calls Tryz.prog 60 #[.pointer (some ⟨q,0,none⟩)] w (fun en w'=>∃ (t s':ByteArray) (e':Int),en=.returned (.string t)∧Keep (fun g=>g=q) w w'∧InAt w' q s' e'∧zbA s.data.toList=(e',t.data.toList,s'.data.toList)):=by
 have HN:=hid (nx_c w q s h hs);have HTk:=fun W (s':ByteArray) (z:Nat) (h':InAt W q s' 0) (hs':s'.size≤1000000) (hz:z≤9223372036854775807)=>hid (zlc W q s' z h' hs' hz);have HTe:=fun W (s':ByteArray) (e':Int) (z:Nat) (h':InAt W q s' e') (h0:e'≠0) (hz:z≤9223372036854775807)=>hid (takee_c W q s' e' z h' h0 hz);clear h;go_enter Tryz.func60,Tryz.ntmps60;go_wp2_with fail
 refine(HN.out).mono ?_;rintro en w1 ⟨z,s1,e1,rfl,k1,h1,hs1,hr1⟩;have hz:z<9223372036854775808:=by
  have:=zlj 9 0 0 s.data.toList rfl (by omega);have e:numF 9 0 0 s.data.toList=(e1,z,s1.data.toList):=hr1;rw[e] at this;exact this
 have HK1:=hid k1;have HI1:=hid h1;have HR1:=hid hr1;clear k1 h1 hr1 HN;go_wp2_with fail
 by_cases he:e1=0
 ·subst he
  refine((HTk _ _ z HI1.out (by omega) (by omega)).out).mono ?_;rintro en w2 ⟨t,s2,e2,rfl,k2,h2,ht⟩;have HK2:=hid (HK1.out.trans k2);have HI2:=hid h2;clear k2 h2 HTk HTe;have HX:Hid (zbA s.data.toList=(e2,t.data.toList,s2.data.toList)):=by
   unfold Hid zbA;rw[HR1.out];dsimp only;have hl:s1.data.toList.length=s1.size:=by rw[Array.length_toList];rfl
   rw[if_pos rfl,hl];rcases ht with⟨a1,rfl,rfl,rfl⟩ | ⟨a1,rfl,rfl,rfl⟩
   ·rw[if_pos a1]
   ·rw[if_neg (by omega)]
    have hx1:(s1.extract 0 z).data.toList=s1.data.toList.take z:=by
     rw[ByteArray.data_extract,Array.toList_extract,List.extract_eq_take_drop,List.drop_zero,Nat.sub_zero]
    have hx2:(s1.extract z s1.size).data.toList=s1.data.toList.drop z:=by
     rw[ByteArray.data_extract,Array.toList_extract,List.extract_eq_take_drop,List.take_of_length_le];rw[List.length_drop,hl];exact Nat.le_refl _
    rw[hx1,hx2]
  clear ht HR1 HI1 HK1;go_wp2_with fail
  go_ret;exact⟨_,_,_,rfl,HK2.out,HI2.out,HX.out⟩
 ·refine((HTe _ _ _ z HI1.out he (by omega)).out).mono ?_
  rintro en w2 ⟨rfl,k2,h2⟩;have HK2:=hid (HK1.out.trans k2);have HI2:=hid h2;clear k2 h2 HTk HTe;have HX:Hid (zbA s.data.toList=(e1,[],s1.data.toList)):=by
   unfold Hid zbA;rw[HR1.out];dsimp only;rw[if_neg he]
  clear HR1 HI1 HK1 he;go_wp2_with fail
  go_ret;exact⟨_,_,_,rfl,HK2.out,HI2.out,HX.out⟩
def chk0 (t rest:List UInt8):Int:=if rest.length<4 then 5 else if rest.take 4=crcF t then 0 else 7
def zbc (s:List UInt8):List UInt8×Nat×Int:=
 if(zbA s).1≠0 then([],0,(zbA s).1)
 else if chk0 (zbA s).2.1 (zbA s).2.2≠0 then([],0,chk0 (zbA s).2.1 (zbA s).2.2)
 else((zbA s).2.1,s.length-(zbA s).2.2.length+4,0)
def zfj (s:ByteArray):Value:=.tuple #[.string ⟨(zbc s.data.toList).1.toArray⟩,.int .i64 (zbc s.data.toList).2.1,.int .i64 (zbc s.data.toList).2.2]
theorem chkZ_0 (t r:ByteArray):chkZ t (r.extract 0 (min 4 r.size))=chk0 t.data.toList r.data.toList:=by
 unfold chkZ chk0;have hl:r.data.toList.length=r.size:=by rw[Array.length_toList];rfl
 have hx:(r.extract 0 (min 4 r.size)).data.toList=r.data.toList.take (min 4 r.size):=by
  rw[ByteArray.data_extract,Array.toList_extract,List.extract_eq_take_drop,List.drop_zero,Nat.sub_zero]
 have hz:(r.extract 0 (min 4 r.size)).size=min 4 r.size:=by rw[ByteArray.size_extract];omega
 rw[hz,hl];by_cases h4:r.size<4
 ·rw[if_pos (by omega),if_pos h4]
 ·rw[if_neg (by omega),if_neg h4,show min 4 r.size=4 by omega]
  rw[show min 4 r.size=4 by omega] at hx;have e:(r.extract 0 4=zcU (zaT t.data.toList))↔(r.data.toList.take 4=crcF t.data.toList):=by
   constructor
   ·intro h
    rw[←hx,h];rfl
   ·intro h
    apply ByteArray.ext;apply Array.ext';rw[hx,h];rfl
  by_cases h:r.data.toList.take 4=crcF t.data.toList
  ·rw[if_pos h,if_pos (e.2 h)]
  ·rw[if_neg h,if_neg (fun h'=>h (e.1 h'))]
end
section
open Go.RowKit
theorem zhd:∀ (f i acc:Nat) (s:List UInt8),∃ k,k≤s.length∧(numF f i acc s).2.2=s.drop k
 | 0,_,_,s=>⟨0,Nat.zero_le _,rfl⟩
 | _+1,_,_,[]=>⟨0,Nat.zero_le _,rfl⟩
 | f+1,i,acc,c::r=>by
  by_cases h:128≤c.toNat
  ·rw[zdi h]
   obtain⟨k,h1,h2⟩:=zhd f (i+1) (acc+c.toNat%128*128^i) r;exact⟨k+1,by rw[List.length_cons];omega,by rw[h2,List.drop_succ_cons]⟩
  ·by_cases hz:c.toNat=0∧0<i
   ·rw[zeK h hz];exact⟨1,by simp,rfl⟩
   ·rw[zdN h hz];exact⟨1,by simp,rfl⟩
theorem zj1 (s:List UInt8):(zbA s).2.2=s.drop (s.length-(zbA s).2.2.length):=by
 have key:∃ k,k≤s.length∧(zbA s).2.2=s.drop k:=by
  obtain⟨k,h1,h2⟩:=zhd 9 0 0 s;have h2:(num0 s).2.2=s.drop k:=h2;unfold zbA
  split
  ·split
   ·exact⟨k,h1,h2⟩
   ·dsimp only
    rename_i h3
    rw[h2,List.length_drop] at h3;rw[h2,List.drop_drop];exact⟨_,by omega,rfl⟩
  ·exact⟨k,h1,h2⟩
 obtain⟨k,h1,h2⟩:=key;rw[h2,List.length_drop,show s.length-(s.length-k)=k by omega]
theorem zg3 (s:List UInt8):(zbA s).2.2.length≤s.length∧(zbA s).2.1.length≤s.length:=by
 have h1:(num0 s).2.2.length≤s.length:=zi3 9 0 0 s;unfold zbA
 split
 ·split
  ·exact⟨h1,Nat.zero_le _⟩
  ·dsimp only
   rw[List.length_drop,List.length_take];omega
 ·exact⟨h1,Nat.zero_le _⟩
theorem back_B (s:ByteArray):(⟨s.data.toList.toArray⟩:ByteArray)=s:=by apply ByteArray.ext;simp
theorem first_c (w:World) (s:ByteArray) (hs:s.size≤1000000):Calls Tryz.prog 23 #[.string s] w (Ret (zfj s) w):=by
 have HO:=fun W=>hid (zcj W s);have HT:=fun W q (h:InAt W q s 0)=>hid (tx_c W q s h hs);have HE:=fun W q (s':ByteArray) (e':Int) (h:InAt W q s' e')=>hid (zhv W q s' e' h);have HL:=fun W q (s':ByteArray) (h:InAt W q s' 0)=>hid (zgx W q s' 0 h);have HC:=fun W (t f:ByteArray) (ht:t.size≤1000000)=>hid (zjv W t f ht);go_enter Tryz.func23,Tryz.ntmps23;go_wp2_with (go_at_call 25;refine((HO _).out).mono ?_;rintro e w1 ⟨v1,rfl,⟨q,rfl,hq,hi⟩,hx⟩;have HX1:=hid hx;have HI1:=hid hi;have HQ:=hid hq;clear hx hi hq)
 refine((HT _ _ HI1.out).out).mono ?_;rintro en w2 ⟨t,s2,e2,rfl,k2,h2,ht⟩;have HX2:=hid (k2.toExt HX1.out (fun g hg=>by subst hg;exact HQ.out));have HI2:=hid h2;clear k2 h2 HX1 HI1 HO HT;go_wp2_with fail
 refine((HE _ _ _ _ HI2.out).out).mono ?_;rintro en w3 ⟨rfl,x3⟩;have HX3:=hid (HX2.out.trans x3);have HI3:=hid (HI2.out.ext x3);clear x3 HX2 HI2 HE;have hl2:s2.data.toList.length=s2.size:=by rw[Array.length_toList];rfl
 have hlt:t.data.toList.length=t.size:=by rw[Array.length_toList];rfl
 have hls:s.data.toList.length=s.size:=by rw[Array.length_toList];rfl
 have hlen:=zg3 s.data.toList;have hdrop:=zj1 s.data.toList;rw[ht] at hlen hdrop;dsimp only at hlen hdrop;rw[hl2,hlt,hls] at hlen;rw[hl2,hls] at hdrop;by_cases he:e2=0
 ·subst he
  have HF:Hid (∀ z,chk0 t.data.toList s2.data.toList=z→zfj s=if z=0 then .tuple #[.string t,.int .i64 ((s.size-s2.size+4:Nat):Int),.int .i64 0] else .tuple #[.string ⟨#[]⟩,.int .i64 0,.int .i64 z]):=fun z hz=>by
   unfold zfj zbc;rw[ht];dsimp only;rw[if_neg (by simp),hz,hl2,hls];by_cases h0:z=0
   ·rw[if_neg (by simp[h0]),if_pos h0,back_B]
   ·rw[if_pos h0,if_neg h0];rfl
  have hcut:s.extract (s.size-s2.size) s.size=s2:=by
   apply ByteArray.ext;apply Array.ext';rw[ByteArray.data_extract,Array.toList_extract,List.extract_eq_take_drop,←hdrop,List.take_of_length_le];rw[hl2];omega
  have HCut:=hid hcut;have HChk:=hid (chkZ_0 t s2);have hn1:s2.size≤s.size:=hlen.1;have hn2:t.size≤s.size:=hlen.2;clear ht hdrop hlen hl2 hlt hls hcut;go_wp2_with fail
  refine((HL _ _ _ HI3.out).out).mono ?_;rintro en w4 ⟨rfl,x4⟩;have HX4:=hid (HX3.out.trans x4);clear x4 HX3 HI3 HL;rw[show zei s2 0=(s2.size:Int) from if_pos rfl];obtain⟨n,hn⟩:∃ n,s.size-s2.size=n:=⟨_,rfl⟩
  have hni:(s.size:Int)-(s2.size:Int)=(n:Int):=by omega
  have hnle:n≤s.size:=by omega
  rw[hn] at HCut HF;clear hn;have hcut:=HCut.out;clear HCut;go_wp2_with fail
  rw[show(min (4:Int) (s2.size:Int)).toNat=min 4 s2.size by omega];refine((HC _ _ _ (by omega)).out).mono ?_;rintro en w5 ⟨rfl,x5⟩;have HX5:=hid (HX4.out.trans x5);clear x5 HX4 HC hcut;rw[HChk.out];clear HChk;generalize chk0 t.data.toList s2.data.toList=z at HF⊢;have hF:=HF.out z rfl;cases hz:(z != 0) with
  | true=>
   have hz0:z≠0:=by simpa using hz
   rw[if_neg hz0] at hF;have HF:=hid hF;clear hz0 hF;go_wp2_with fail
   go_ret3
   exact⟨by rw[HF.out];rfl,HX5.out⟩
  | false=>
   have hz0:z=0:=by simpa using hz
   rw[if_pos hz0,show((n+4:Nat):Int)=(n:Int)+4 by omega] at hF;have HF2:=hid hF;subst hz0;clear hF HF;go_wp2_with fail
   go_ret3
   exact⟨by rw[HF2.out];rfl,HX5.out⟩
 ·have HF:Hid (zfj s=.tuple #[.string ⟨#[]⟩,.int .i64 0,.int .i64 e2]):=by
   unfold Hid zfj zbc;rw[ht];dsimp only;rw[if_pos he];rfl
  have hd:(e2 != 0)=true:=by simp[he]
  clear ht he hlen hdrop hl2 hlt hls HL HC;go_wp2_with fail
  go_ret3
  exact⟨by rw[HF.out];rfl,HX3.out⟩
end
section
open Go.RowKit
def zhK (b:Bool):List Value:=[.bool b]
theorem zgR:Coded zhK 1:=⟨fun _=>rfl,fun a u hu=>by simp[zhK] at hu;rw[hu];rfl⟩
theorem zmW:(Tryz.prog.info? 4).map (fun i=>(i.zero,i.size,i.bytes))=some (some (.bool false),1,1):=by kernel_rfl
theorem zhJ:Elem Tryz.prog 185 4 1 1:=by
 obtain⟨i0,h0,h1,h2,h3⟩:=info_parts zmW;exact⟨Tryz.underlying185,i0,_,h0,h1,h2,h3,rfl⟩
theorem zgZ {c k:Nat} (h:k<8):(za2 c).take (k+1)=(za2 c).take k++[c.testBit k]:=by
 have hl:k<(za2 c).length:=by simp[za2];exact h
 rw[List.take_succ_eq_append_getElem hl];simp[za2]
theorem zir (c:Nat):(za2 c).take 8=za2 c:=List.take_of_length_le (by simp[za2])
theorem div_bit (c k:Nat):((c/2^k:Nat):Int)%2=(c.testBit k).toNat:=by
 rw[Nat.testBit,Nat.shiftRight_eq_div_pow,Nat.and_comm,Nat.and_one_is_mod];generalize c/2^k=m;rw[show(m:Int)%2=((m%2:Nat):Int) by omega];rcases Nat.mod_two_eq_zero_or_one m with e | e
 ·rw[e];rfl
 ·rw[e];rfl
def zee (l:List Bool) (B:Nat) (v:Value) (w:World):Prop:=w.ownsRow B 4 1 v l.length (l.map zhK).flatten
theorem rbits_c (w:World) (s:ByteArray) (hs:s.size≤100000):Calls Tryz.prog 133 #[.string s] w (RetQ (zee (zc5 s.data.toList) w.heap.size) w):=by
 go_enter Tryz.func133,Tryz.ntmps133;go_wp2_with fail
 go_loopw [3,4] (fun ou i wr=>∃ k:Nat,k≤s.size∧i=.int .i64 k∧Hid (Ext w wr)∧zee (zaN (s.data.toList.take k)) w.heap.size ou wr) (fun _ i _=>s.size-(intOf i).toNat)
 case atStart=>exact⟨0,by omega,rfl,Ext.refl _,zB _ _ _ _⟩
 case round=>
  obtain⟨k,hk,rfl,hE,hO⟩:=hrel;have HO:=hid hO;clear hO;by_cases hlt:k<s.size
  ·have e1:decide ((k:Int)<s.size)=true:=decide_eq_true (by omega)
   have e1':decide (k<s.size)=true:=decide_eq_true hlt;have HS:Hid (zaN (s.data.toList.take (k+1))=zaN (s.data.toList.take k)++za2 s[k].toNat):=by unfold Hid;rw[takeD hlt,zgV]
   have hlen:(zaN (s.data.toList.take k)).length≤800000:=by rw[zb8,List.length_take];omega
   have hb256:s[k].toNat<256:=UInt8.toNat_lt _;generalize zaN (s.data.toList.take k)=acc at HO HS hlen;go_wp2_with fail
   generalize s[k].toNat=c at HS hb256⊢;go_loopw [3,5,6] (fun ou nv jv wr3=>∃ j:Nat,j≤8∧jv=.int .i64 j∧nv=.int .i64 ((c/2^j:Nat):Int)∧Hid (Ext w wr3)∧zee (acc++(za2 c).take j) w.heap.size ou wr3) (fun _ _ jv _=>8-(intOf jv).toNat)
   case atStart=>exact⟨0,by omega,rfl,by simp,hE.out,by simpa using HO.out⟩
   case round=>
    clear HO;obtain⟨j,hj,rfl,rfl,hEj,hOj⟩:=hrel;have HOj:=hid hOj;clear hOj;by_cases hj8:j<8
    ·have d1:decide ((j:Int)<8)=true:=decide_eq_true (by omega)
     have HB:=hid (zgZ (c:=c) hj8);have hbit:=div_bit c j;have hle:c/2^j≤256:=Nat.le_trans (Nat.div_le_self _ _) (by omega);have HDv:Hid (c/2^(j+1)=c/2^j/2):=by unfold Hid;rw[Nat.pow_succ,Nat.div_div_eq_div_mul]
     have hla:(acc++(za2 c).take j).length≤1000000:=by rw[List.length_append,List.length_take];omega
     obtain⟨v',w6,hrun6,ho6,hk6,_⟩:=zaZ (P:=Tryz.prog) zhJ zgR HOj.out hEj.out.size (c.testBit j) hla (by omega);have HE6:=hid (hk6.toExt hEj.out (fun q hq=>(zG HOj.out q hq).1));have HO6:=hid ho6;clear ho6 hk6 HOj;generalize c/2^j=m at hbit hle HDv⊢;have hb2:((m:Int)%2==1)=c.testBit j:=by rw[hbit];cases c.testBit j <;> rfl
     simp only[zhK] at hrun6;generalize c.testBit j=b at hbit hb2 hrun6 HB HO6;clear hbit;go_wp2_with (at_builtin;refine zI rfl (.tmp 22) (.tmp 26) _ _ rfl rfl rfl hrun6 ?_)
     go_roundw
     case rel=>exact⟨j+1,by omega,by go_num,by rw[HDv.out];go_num,HE6.out,by rw[HB.out,←List.append_assoc];exact HO6.out⟩
     case measure=>simp[intOf];omega
    ·obtain rfl:j=8:=by omega
     have d1:decide (((8:Nat):Int)<8)=false:=by decide
     go_wp2_with fail
     go_roundw
     case rel=>exact⟨k+1,by omega,by go_num,hEj.out,by rw[HS.out];rw[zir] at HOj;exact HOj.out⟩
     case measure=>simp[intOf];omega
  ·obtain rfl:k=s.size:=by omega
   rw[List.take_of_length_le (by rw[Array.length_toList];exact Nat.le_refl _)] at HO;have hlen:(zaN s.data.toList).length≤800000:=by rw[zb8,Array.length_toList];show 8*s.size≤_;omega
   clear hlt;go_wp2_with fail
   go_loopw [3,7] (fun ou jv wr3=>∃ j:Nat,j≤32∧jv=.int .i64 j∧Hid (Ext w wr3)∧zee (zaN s.data.toList++List.replicate j false) w.heap.size ou wr3) (fun _ jv _=>32-(intOf jv).toNat)
   case atStart=>exact⟨0,by omega,rfl,hE.out,by simpa using HO.out⟩
   case round=>
    clear HO hE;obtain⟨j,hj,rfl,hEj,hOj⟩:=hrel;have HOj:=hid hOj;clear hOj;by_cases hj8:j<32
    ·have d1:decide ((j:Int)<32)=true:=decide_eq_true (by omega)
     have hla:(zaN s.data.toList++List.replicate j false).length≤1000000:=by rw[List.length_append,List.length_replicate];omega
     obtain⟨v',w6,hrun6,ho6,hk6,_⟩:=zaZ (P:=Tryz.prog) zhJ zgR HOj.out hEj.out.size false hla (by omega);have HE6:=hid (hk6.toExt hEj.out (fun q hq=>(zG HOj.out q hq).1));have HO6:=hid ho6;clear ho6 hk6 HOj;simp only[zhK] at hrun6;go_wp2_with (at_builtin;refine zI rfl (.tmp 34) (.tmp 35) _ _ rfl rfl rfl hrun6 ?_)
     go_roundw
     case rel=>exact⟨j+1,by omega,by go_num,HE6.out,by rw[List.replicate_succ',←List.append_assoc];exact HO6.out⟩
     case measure=>simp[intOf];omega
    ·obtain rfl:j=32:=by omega
     have d1:decide (((32:Nat):Int)<32)=false:=by decide
     go_wp2_with fail
     go_ret;exact⟨_,rfl,HOj.out,hEj.out⟩
def intC (n:Nat):List Value:=[.int .i64 n]
theorem zlS (w:World):Calls Tryz.prog 134 #[] w (RetQ (fun v w'=>∃ b,v=.slice (some ⟨b,0,none⟩) 17 17∧w.heap.size≤b∧b<w'.heap.size ∧ ∀ k (h:k<powersL.length),w'.cell? ⟨b,k,none⟩=some (.int .i64 (powersL[k]:Nat))) w):=by
 have HN:=hid (Blk.new w 3 ((powersL.map intC).flatten).toArray);have HC:Hid (∀ k (h:k<powersL.length),((powersL.map intC).flatten).toArray[k]? = some (.int .i64 (powersL[k]:Nat))):=by
  intro k h;have h17:k<17:=h;rcases k with _ | _ | _ | _ | _ | _ | _ | _ | _ | _ | _ | _ | _ | _ | _ | _ | _ | k
  all_goals first
   | rfl
   | omega
 go_enter Tryz.func134,Tryz.ntmps134;go_wp2_with fail
 go_ret;exact⟨_,rfl,⟨_,rfl,Nat.le_refl _,HN.out.lt,fun k h=>HN.out.cell (HC.out k h)⟩,Ext.alloc _ _⟩
def Bits (w:World) (g:Nat) (l:List Bool):Prop:=∃ cs:Array Value,Blk w g 4 cs ∧ ∀ (t:Nat) (b:Bool),l[t]? = some b→cs[t]? = some (Value.bool b)
theorem Bits.ext {w w':World} {g:Nat} {l:List Bool} (h:Bits w g l) (he:Ext w w'):Bits w' g l:=by
 obtain⟨cs,h1,h2⟩:=h;exact⟨cs,h1.ext he,h2⟩
theorem Bits.cell {w:World} {g:Nat} {l:List Bool} (h:Bits w g l) {t:Nat} (ht:t<l.length):w.cell? ⟨g,t,none⟩=some (.bool (l[t]?.getD false)):=by
 obtain⟨cs,h1,h2⟩:=h;rw[List.getElem?_eq_getElem ht];exact h1.cell (h2 t _ (List.getElem?_eq_getElem ht))
theorem Bits.lt {w:World} {g:Nat} {l:List Bool} (h:Bits w g l):g<w.heap.size:=by
 obtain⟨cs,h1,_⟩:=h;exact h1.lt
theorem Bits.frozen {w:World} {g:Nat} {l:List Bool} (h:Bits w g l) (t:Nat):w.frozen? ⟨g,t,none⟩=false:=by
 obtain⟨cs,h1,_⟩:=h;exact h1.frozen t
theorem Bits.flip {w:World} {g:Nat} {l:List Bool} (h:Bits w g l) {t:Nat} (ht:t<l.length):Bits (w.setCell ⟨g,t,none⟩ (.bool (!(l[t]?.getD false)))) g (zbu l t)∧Keep (fun q=>q=g) w (w.setCell ⟨g,t,none⟩ (.bool (!(l[t]?.getD false)))):=by
 obtain⟨cs,h1,h2⟩:=h;have hc:=(Array.getElem?_eq_some_iff.1 (h2 t _ (List.getElem?_eq_getElem ht))).1;refine⟨⟨_,h1.set t _,fun u b hu=>?_⟩,(Keep.refl (fun q=>q=g) w).setCell (p:=⟨g,t,none⟩) (.inl rfl) _⟩;unfold zbu at hu;rw[Array.getElem?_setIfInBounds];rw[List.getElem?_set] at hu;by_cases e:t=u
 ·rw[if_pos e] at hu⊢
  subst e;rw[if_pos ht] at hu;rw[if_pos hc];injection hu with hu
  rw[hu]
 ·rw[if_neg e] at hu⊢
  exact h2 u b hu
theorem bits_of {w:World} {l:List Bool} {B:Nat} {v:Value} (h:zee l B v w) (hl:0<l.length):∃ g c,v=.slice (some ⟨g,0,none⟩) l.length c∧l.length≤c∧c≤9223372036854775807∧B≤g∧Bits w g l:=by
 unfold zee at h;rcases h.2 with⟨_,h0⟩ | ⟨g,cap,cur,hv,hb,hg,r⟩
 ·omega
 ·obtain⟨r1,r2,r3,r4⟩:=r
  unfold maxLen at r2;refine⟨g,cap,hv,r1,r2,hb,cur,hg,fun t b ht=>?_⟩;have hlt:t<l.length:=(List.getElem?_eq_some_iff.1 ht).1;have e:(l.map zhK).flatten=l.map Value.bool:=by
   clear r4 ht hlt r1 hv h hl
   induction l with
   | nil=>rfl
   | cons x l ih=>rw[List.map_cons,List.flatten_cons,ih];rfl
  rw[Nat.mul_one,e] at r4;have h5:(cur.toList.take l.length)[t]? = some (Value.bool b):=by rw[r4,List.getElem?_map,ht];rfl
  rw[List.getElem?_take,if_pos hlt] at h5;simpa using h5
end
section
open Go.RowKit
theorem zmG (b:List Bool) (i:Nat):divs b (i+1)=if(divs b i)[i]?.getD false then(powersL.map fun p=>i+32-p).foldl zbu (divs b i) else divs b i:=rfl
theorem zkM (b:List Bool) (i k:Nat) (h:k<powersL.length):((powersL.take (k+1)).map fun p=>i+32-p).foldl zbu b=zbu (((powersL.take k).map fun p=>i+32-p).foldl zbu b) (i+32-powersL[k]):=by
 rw[List.take_succ_eq_append_getElem h,List.map_append,List.foldl_append];rfl
theorem zlY:∀ k (h:k<powersL.length),powersL[k]≤28:=by decide
theorem zla (b:List Bool):∀ k,topN b k<2^k
 | 0=>by simp[topN]
 | k+1=>by
  have:=zla b k;rw[topN,Nat.pow_succ];have h:(!(b[b.length-1-k]?.getD false)).toNat≤1:=Bool.toNat_le _;omega
theorem pow_32 (k:Nat) (h:k≤32):2^k≤4294967296:=Nat.pow_le_pow_right (n:=2) (by omega) h
theorem zmo {S:Nat→Prop} {w w':World} (k:Keep S w w') {b o:Nat} {v:Value} (hb:b<w.heap.size) (hs:¬ S b) (h:w.cell? ⟨b,o,none⟩=some v):w'.cell? ⟨b,o,none⟩=some v:=by
 have hk:=k.block b hb hs;unfold World.cell? at h⊢;rw[hk];exact h
theorem rsum_c (w:World) (s:ByteArray) (hs:s.size≤100000):Calls Tryz.prog 85 #[.string s] w (Ret (.int .i64 (zaT s.data.toList)) w):=by
 have HB:=fun W=>hid (rbits_c W s hs);have HP:=fun W=>hid (zlS W);have HTop:=hid (topN_32 s.data.toList);have hlen:(zc5 s.data.toList).length=8*s.size+32:=by rw[zea,Array.length_toList];rfl
 generalize zc5 s.data.toList=D at HB HTop hlen;have hs8:s.data.toList.length=s.size:=by rw[Array.length_toList];rfl
 rw[hs8] at HTop;obtain⟨N,hN⟩:∃ N,D.length=N:=⟨_,rfl⟩
 have HN2:Hid (N=8*s.size+32):=hN.symm.trans hlen;have hN3:32≤N:=by omega
 have hN4:N≤1000000:=by omega
 clear hlen;go_enter Tryz.func85,Tryz.ntmps85;go_wp2_with (go_at_call 133;refine((HB _).out).mono ?_;rintro e w1 ⟨v1,rfl,hb1,x1⟩;obtain⟨g,c,rfl,g1,g2,g3,hb1⟩:=bits_of hb1 (by omega);have X1:=hid x1;have HB1:=hid hb1;clear x1 hb1)
 rw[hN] at g1;go_loopw [4] (fun iv wr=>∃ k:Nat,k≤32∧iv=.int .i64 k∧Hid (Ext w wr)∧Hid (Bits wr g (zbh D k))) (fun iv _=>32-(intOf iv).toNat)
 case atStart=>exact⟨0,by omega,rfl,X1.out,HB1.out⟩
 case round=>
  clear HB1 X1;obtain⟨k,hk,rfl,hE,hB⟩:=hrel;by_cases hlt:k<32
  ·have d1:decide ((k:Int)<32)=true:=decide_eq_true (by omega)
   have hkl:k<(zbh D k).length:=by rw[zdy];omega
   have c0:=hB.out.cell hkl;have lg:=hB.out.lt;have fz:=hB.out.frozen k;have h2:=hB.out.flip hkl;have HB2:=hid h2.1;have HE2:=hid (h2.2.toExt hE.out (fun q hq=>by subst hq;exact g3));have HS:=hid (zjh D k);clear h2 hB hE;generalize (zbh D k)[k]?.getD false=b at c0 HB2 HE2;go_wp2_with fail
   go_roundw
   case rel=>exact⟨k+1,by omega,by go_num,HE2.out,by rw[HS.out];exact HB2.out⟩
   case measure=>simp[intOf];omega
  ·obtain rfl:k=32:=by omega
   have HLen:Hid (∀ i,(divs (zbh D 32) i).length=N):=fun i=>by rw[zeV,zdy,hN]
   have HB0:Hid (Bits wr g (divs (zbh D 32) 0)):=hB;have hN5:Hid (N-32=8*s.size):=by have:=HN2.out;unfold Hid;omega
   have HDv:Hid (∀ i,divs (zbh D 32) (i+1)=if(divs (zbh D 32) i)[i]?.getD false then(powersL.map fun p=>i+32-p).foldl zbu (divs (zbh D 32) i) else divs (zbh D 32) i):=fun i=>zmG _ i;generalize divs (zbh D 32)=dv at HLen HB0 HTop HDv;clear hB hlt HB hb1 hN HN2 hs8;have d1:decide (((32:Nat):Int)<32)=false:=by decide
   go_wp2_with (go_at_call 134;refine((HP _).out).mono ?_;rintro e w2 ⟨v2,rfl,⟨b2,rfl,hb2,lb2,hc2⟩,x2⟩;have X2:=hid (hE.out.trans x2);have HB2:=hid (HB0.out.ext x2);have hbg:b2≠g:=Nat.ne_of_gt (Nat.lt_of_lt_of_le HB0.out.lt hb2);have HC2:=hid hc2;clear x2 hc2)
   clear HB0 HP hE d1;go_loopw [6] (fun iv wr=>∃ i:Nat,i≤N-32∧iv=.int .i64 i∧Hid (Ext w wr)∧Hid (Keep (fun q=>q=g) w2 wr)∧Hid (Bits wr g (dv i))) (fun iv _=>N-32-(intOf iv).toNat)
   case atStart=>exact⟨0,by omega,rfl,X2.out,Keep.refl _ _,HB2.out⟩
   case round=>
    clear X2 HB2;obtain⟨i,hi,rfl,hE,hK,hB⟩:=hrel;by_cases hlt:i<N-32
    ·have d1:decide ((i:Int)<(N:Int)-32)=true:=decide_eq_true (by omega)
     have hil:i<(dv i).length:=by rw[HLen.out];omega
     have c0:=hB.out.cell hil;have lg:=hB.out.lt;have fz:=hB.out.frozen i;have HS:=hid (HDv.out i);cases hb:(dv i)[i]?.getD false with
     | false=>
      rw[hb] at c0 HS;rw[if_neg Bool.false_ne_true] at HS;clear hb hil HTop;go_wp2_with fail
      go_roundw
      case rel=>exact⟨i+1,by omega,by go_num,hE.out,hK.out,by rw[HS.out];exact hB.out⟩
      case measure=>simp[intOf];omega
     | true=>
      rw[hb] at c0 HS;rw[if_pos rfl] at HS;clear hb hil HTop;go_wp2_with fail
      obtain⟨fl,F0,FN,FA,FL⟩:∃ fl:Nat→List Bool,Hid (Bits wr g (fl 0))∧Hid (∀ k (h:k<powersL.length),fl (k+1)=zbu (fl k) (i+32-powersL[k]))∧Hid (fl 17=dv (i+1))∧Hid (∀ k,(fl k).length=N):=⟨fun k=>((powersL.take k).map fun p=>i+32-p).foldl zbu (dv i),hB.out,fun k h=>zkM (dv i) i k h,HS.out.symm,fun k=>(zd3 _ _).trans (HLen.out i)⟩
      clear HS hB HLen HDv c0 lg fz d1;go_loopw [7] (fun jv wr3=>∃ j:Nat,j≤17∧jv=.int .i64 j∧Hid (Ext w wr3)∧Hid (Keep (fun q=>q=g) w2 wr3)∧Hid (Bits wr3 g (fl j))) (fun jv _=>17-(intOf jv).toNat)
      case atStart=>exact⟨0,by omega,rfl,hE.out,hK.out,F0.out⟩
      case round=>
       clear F0 hE hK;obtain⟨j,hj,rfl,hEj,hKj,hBj⟩:=hrel;by_cases hj17:j<17
       ·have d1:decide ((j:Int)<17)=true:=decide_eq_true (by omega)
        have d1':decide (j<17)=true:=decide_eq_true hj17;have y0:=zmo hKj.out lb2 hbg (HC2.out j hj17);have lb:=Nat.lt_of_lt_of_le lb2 hKj.out.size;have hp:=zlY j hj17;have HN:=hid (FN.out j hj17);generalize powersL[j]'hj17=p at y0 hp HN;obtain⟨t,ht⟩:∃ t,i+32-p=t:=⟨_,rfl⟩
        have hidx:(i:Int)+32-(p:Int)=(t:Int):=by omega
        have htN:t<N:=by omega
        have htl:t<(fl j).length:=by rw[FL.out];exact htN
        rw[ht] at HN;have c0:=hBj.out.cell htl;have lg:=hBj.out.lt;have fz:=hBj.out.frozen t;have HBj:=hid htl;clear ht htl;go_wp2_with fail
        refine zcM (Rel.ext) (pre:=?pre89) (z:=?z89) ?hpre89 ?hz89 (Ext.steady wr) (by kernel_rfl) (by kernel_rfl) (by kernel_rfl) (by kernel_rfl) ?_
        case hpre89=>(simp only[List.dropLast_cons_cons,List.dropLast_singleton];first | done | exact rfl)
        case hz89=>(simp only[List.getLast?_cons_cons,List.getLast?_singleton];first | done | exact rfl)
        repeat (first
         | (refine AWq.val rfl rfl rfl rfl (fun K hK=>?_);go_big_quiet_op;refine hK _ ?_;clear hK K)
         | (refine AWq.skip rfl rfl rfl ?_;simp only[Act.put,zq6,zq7,zq8]))
        refine AWq.last rfl rfl rfl (fun w5 x5=>?_);simp only[zt,Act.put,zq6,zq7,zq8];have h2:=(hBj.out.ext x5).flip HBj.out;have lg5:=Nat.lt_of_lt_of_le lg x5.size;have fz5:=(hBj.out.ext x5).frozen t;have c5:=x5.cell c0;have HB6:=hid h2.1;have HE6:=hid (h2.2.toExt (hEj.out.trans x5) (fun q hq=>by subst hq;exact g3));have HK6:=hid ((hKj.out.ext x5).trans h2.2);clear h2 c0 fz lg x5;generalize (fl j)[t]?.getD false=b at c5 HB6 HE6 HK6⊢;go_wp2_with fail
        go_roundw
        case rel=>exact⟨j+1,by omega,by go_num,HE6.out,HK6.out,by rw[HN.out];exact HB6.out⟩
        case measure=>simp[intOf];omega
       ·obtain rfl:j=17:=by omega
        have d1:decide (((17:Nat):Int)<17)=false:=by decide
        clear FN FL hj17;go_wp2_with fail
        go_roundw
        case rel=>exact⟨i+1,by omega,by go_num,hEj.out,hKj.out,by rw[←FA.out];exact hBj.out⟩
        case measure=>simp[intOf];omega
    ·obtain rfl:i=N-32:=by omega
     have d1:decide (((N-32:Nat):Int)<(N:Int)-32)=false:=decide_eq_false (by omega);rw[hN5.out] at hB;have HL:=HLen.out (8*s.size);generalize dv (8*s.size)=b at hB HTop HL;have HLb:=hid HL;clear HLen HDv hlt hK hN5 HC2 HL hbg lb2 hb2;go_wp2_with fail
     clear d1 hi;go_loopw [8,10] (fun nv jv wr3=>∃ j:Nat,j≤32∧jv=.int .i64 j∧nv=.int .i64 (topN b j)∧Hid (Ext w wr3)∧Hid (Bits wr3 g b)) (fun _ jv _=>32-(intOf jv).toNat)
     case atStart=>exact⟨0,by omega,rfl,rfl,hE.out,hB.out⟩
     case round=>
      clear hE hB;obtain⟨j,hj,rfl,rfl,hEj,hBj⟩:=hrel;by_cases hj17:j<32
      ·have d1:decide ((j:Int)<32)=true:=decide_eq_true (by omega)
       have hn1:=zla b j;have hn2:=pow_32 j hj;have hn3:topN b j≤4294967296:=by omega
       obtain⟨t,ht⟩:∃ t,N-1-j=t:=⟨_,rfl⟩
       have hidx:(N:Int)-1-(j:Int)=(t:Int):=by omega
       have htN:t<N:=by omega
       have HN:Hid (topN b (j+1)=topN b j*2+(!(b[t]?.getD false)).toNat):=by unfold Hid;rw[topN,HLb.out,ht]
       have c0:=hBj.out.cell (t:=t) (by rw[HLb.out];exact htN);have lg:=hBj.out.lt;clear ht hn1 hn2 HTop;generalize topN b j=n at HN hn3⊢;cases hb:b[t]?.getD false with
       | false=>
        rw[hb] at c0 HN;clear hb;go_wp2_with fail
        go_roundw
        case rel=>exact⟨j+1,by omega,by go_num,by rw[HN.out];go_num,hEj.out,hBj.out⟩
        case measure=>simp[intOf];omega
       | true=>
        rw[hb] at c0 HN;clear hb;go_wp2_with fail
        go_roundw
        case rel=>exact⟨j+1,by omega,by go_num,by rw[HN.out];go_num,hEj.out,hBj.out⟩
        case measure=>simp[intOf];omega
      ·obtain rfl:j=32:=by omega
       have d1:decide (((32:Nat):Int)<32)=false:=by decide
       rw[HTop.out];clear hj17;go_wp2_with fail
       go_ret;exact⟨rfl,hEj.out⟩
theorem rfour_c (w:World) (s:ByteArray) (hs:s.size≤100000):Calls Tryz.prog 37 #[.string s] w (Ret (.string (zcU (zaT s.data.toList))) w):=by
 have HSum:=fun W=>hid (rsum_c W s hs);have hy:=zcI s.data.toList;generalize zaT s.data.toList=y at HSum hy⊢;go_enter Tryz.func37,Tryz.ntmps37;go_wp2_with (go_at_call 85;refine((HSum _).out).mono ?_;rintro e w1 ⟨rfl,x1⟩)
 rw[zhB,zgC hy];go_wp2_with fail
 go_ret;exact⟨rfl,x1.alloc' _⟩
end
section
open Go.RowKit
theorem ziQ (w:World) (s:ByteArray) (hs:s.size≤100000):Calls Tryz.prog 22 #[.string s] w (Ret (.string ⟨(zat s.data.toList).toArray⟩) w):=by
 have HT:=fun W=>hid (zbv W s hs);have H4:=fun W=>hid (rfour_c W s hs);have hV:(zK s++zcU (zaT s.data.toList))=⟨(zat s.data.toList).toArray⟩:=by
  apply ByteArray.ext;apply Array.ext';have hl:s.data.toList.length=s.size:=by rw[Array.length_toList];rfl
  unfold zat zK lebB zcU crcF;rw[hl];simp
 have h9:(zK s).size≤100009:=by
  unfold zK;rw[ByteArray.size_append];have:=zes (n:=s.size) (by omega);omega
 have h4:(zcU (zaT s.data.toList)).size≤4:=Nat.le_refl 4;have HV:=hid hV;generalize zK s=t at HT h9 HV;generalize zcU (zaT s.data.toList)=f at H4 h4 HV;clear hV;go_enter Tryz.func22,Tryz.ntmps22;go_wp2_with fail
 refine((HT _).out).mono ?_;rintro en w1 ⟨rfl,x1⟩;go_wp2_with fail
 refine((H4 _).out).mono ?_;rintro en w2 ⟨rfl,x2⟩;have HX:=hid (x1.trans x2);clear x1 x2;go_wp2_with fail
 go_ret;exact⟨by rw[←HV.out];rfl,HX.out⟩
end
end Go.Proofs.YtofjpdgojoppbaaGreatDoor
