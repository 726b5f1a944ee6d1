/-
  Of the claim's proof: CrA, CrB, MgA, FrB, FrC, CrC, CrD, FrD.
-/
import Derived.Test.YtofjpdgojoppbaaGreatDoorProg
import Derived.OwnWalk
import Derived.BigQuiet
import Derived.Test.YtofjpdgojoppbaaGreatDoorG01
import Derived.Test.YtofjpdgojoppbaaGreatDoorG02
import Derived.Test.YtofjpdgojoppbaaGreatDoorG05
import Derived.Test.YtofjpdgojoppbaaGreatDoorG19
set_option maxRecDepth 100000
set_option maxHeartbeats 16000000
set_option linter.unusedVariables false
set_option linter.unusedSimpArgs false
namespace Go.Proofs.YtofjpdgojoppbaaGreatDoor
section
def crcP:Nat:=2197175160
def zaE (x:Nat):Nat:=(x >>> 1)^^^(if x%2=1 then crcP else 0)
def crcN:Nat→Nat→Nat
 | 0,x=>x
 | k+1,x=>crcN k (zaE x)
def zdD (x:Nat) (b:Nat):Nat:=crcN 8 (x^^^b)
def zbX (l:List UInt8):Nat:=l.foldl (fun x c=>zdD x c.toNat) 4294967295
def zaC (l:List UInt8):Nat:=zbX l^^^4294967295
theorem zgJ:∀ (k x:Nat),crcN (k+1) x=zaE (crcN k x)
 | 0,_=>rfl
 | k+1,x=>zgJ k (zaE x)
theorem zf0 {x:Nat} (h:x<4294967296):zaE x<4294967296:=by
 unfold zaE;refine Nat.xor_lt_two_pow (n:=32) ?_ ?_
 ·rw[Nat.shiftRight_eq_div_pow];omega
 ·split <;> decide
theorem zhr:∀ (k:Nat) {x:Nat},x<4294967296→crcN k x<4294967296
 | 0,_,h=>h
 | k+1,_,h=>zhr k (zf0 h)
theorem zjA {x b:Nat} (h:x<4294967296) (hb:b<256):zdD x b<4294967296:=
 zhr 8 (Nat.xor_lt_two_pow (n:=32) h (by omega))
theorem zgI:∀ (l:List UInt8) {x:Nat},x<4294967296→l.foldl (fun x c=>zdD x c.toNat) x<4294967296
 | [],_,h=>h
 | c::l,_,h=>zgI l (zjA h c.toNat_lt)
theorem zeN (l:List UInt8):zbX l<4294967296:=zgI l (by omega)
theorem zdC (l:List UInt8):zaC l<4294967296:=Nat.xor_lt_two_pow (n:=32) (zeN l) (by decide)
theorem zis (l:List UInt8) (c:UInt8):zbX (l++[c])=zdD (zbX l) c.toNat:=by simp[zbX]
theorem odd_bit (x:Nat):decide (x%2=1)=x.testBit 0:=by simp[Nat.testBit_zero]
theorem zcF (x j:Nat):(zaE x).testBit j=(x.testBit (j+1) ^^ (x.testBit 0&&crcP.testBit j)):=by
 unfold zaE;rw[Nat.testBit_xor,Nat.testBit_shiftRight,Nat.add_comm 1 j]
 congr 1
 have h:=odd_bit x;by_cases hx:x%2=1
 ·rw[if_pos hx,←h,decide_eq_true hx,Bool.true_and]
 ·rw[if_neg hx,←h,decide_eq_false hx,Bool.false_and,Nat.zero_testBit]
theorem ziq (a b:Nat):zaE (a^^^b)=zaE a^^^zaE b:=by
 apply Nat.eq_of_testBit_eq;intro j;rw[Nat.testBit_xor,zcF,zcF,zcF,Nat.testBit_xor,Nat.testBit_xor];cases a.testBit (j+1) <;> cases b.testBit (j+1) <;> cases a.testBit 0 <;> cases b.testBit 0 <;> cases crcP.testBit j <;> rfl
def zbW (x:Nat) (l:List Bool):Nat:=l.foldl (fun x d=>zaE (x^^^d.toNat)) x
def zaO (n:Nat):List Bool:=(List.range 8).map n.testBit
theorem zhq (c:Nat):zaE (2*c)=c:=by
 unfold zaE;rw[if_neg (by omega),Nat.xor_zero,Nat.shiftRight_eq_div_pow];omega
theorem zkg (b:Nat):b=(b.testBit 0).toNat^^^(2*(b/2)):=by
 apply Nat.eq_of_testBit_eq;intro j;rw[Nat.testBit_xor];cases j with
 | zero=>
  have h:(2*(b/2)).testBit 0=false:=by simp[Nat.testBit_zero]
  rw[h,Bool.xor_false];cases e:b.testBit 0 <;> rfl
 | succ j=>
  have h:(b.testBit 0).toNat.testBit (j+1)=false:=by
   cases b.testBit 0
   ·exact Nat.zero_testBit _
   ·exact Nat.testBit_lt_two_pow (show 1<2^(j+1) by have:=Nat.one_le_two_pow (n:=j);rw[Nat.pow_succ];omega)
  rw[h,Bool.false_xor,Nat.testBit_succ,Nat.testBit_succ]
  congr 1
  omega
theorem zit:∀ (k x b:Nat),b<2^k→crcN k (x^^^b)=zbW x ((List.range k).map b.testBit)
 | 0,x,b,h=>by
  have:b=0:=by simpa using h
  subst this;simp[crcN,zbW]
 | k+1,x,b,h=>by
  show crcN k (zaE (x^^^b))=_
  rw[show x^^^b=(x^^^(b.testBit 0).toNat)^^^(2*(b/2)) by rw[Nat.xor_assoc,←zkg],ziq,zhq,zit k _ (b/2) (by rw[Nat.pow_succ] at h;omega),List.range_succ_eq_map,List.map_cons,List.map_map];unfold zbW;rw[List.foldl_cons]
  congr 1
  apply List.map_congr_left;intro j _;simp[Nat.testBit_succ]
theorem crcByte_ser (x b:Nat) (h:b<256):zdD x b=zbW x (zaO b):=zit 8 x b h
theorem zf1 (x:Nat) (l r:List Bool):zbW x (l++r)=zbW (zbW x l) r:=by simp[zbW,List.foldl_append]
def zaD (l:List UInt8):List Bool:=l.flatMap fun c=>zaO c.toNat
theorem zbQ (l:List UInt8):(zaD l).length=8*l.length:=by
 unfold zaD
 induction l with
 | nil=>rfl
 | cons c l ih=>rw[List.flatMap_cons,List.length_append,ih,List.length_cons];simp[zaO];omega
theorem zga (l:List UInt8) (c:UInt8):zaD (l++[c])=zaD l++zaO c.toNat:=by simp[zaD]
theorem zjz (l:List UInt8):zbX l=zbW 4294967295 (zaD l):=by
 unfold zbX zaD;generalize 4294967295=x
 induction l generalizing x with
 | nil=>rfl
 | cons c l ih=>rw[List.foldl_cons,ih,List.flatMap_cons,zf1,crcByte_ser _ _ c.toNat_lt]
def zbi (b:List Bool) (i:Nat):List Bool:=b.set i (!(b[i]?.getD false))
def powersL:List Nat:=[28,27,26,25,23,22,20,19,18,14,13,11,10,9,8,6,0]
def zfc (b:List Bool) (i:Nat):List Bool:=if b[i]?.getD false then(powersL.map fun p=>i+32-p).foldl zbi b else b
def divs (b:List Bool):Nat→List Bool
 | 0=>b
 | i+1=>zfc (divs b i) i
theorem zfR (b:List Bool) (i:Nat):(zbi b i).length=b.length:=by simp[zbi]
theorem zdy:∀ (l:List Nat) (b:List Bool),(l.foldl zbi b).length=b.length
 | [],_=>rfl
 | i::l,b=>by rw[List.foldl_cons,zdy l,zfR]
theorem zin (b:List Bool) (i:Nat):(zfc b i).length=b.length:=by
 unfold zfc
 split
 ·exact zdy _ _
 ·rfl
theorem zeo (b:List Bool):∀ i,(divs b i).length=b.length
 | 0=>rfl
 | i+1=>by rw[divs,zin,zeo b i]
theorem zjr (b:List Bool) (i t:Nat) (h:t<b.length):(zbi b i)[t]?.getD false=(b[t]?.getD false ^^ decide (t=i)):=by
 unfold zbi;rw[List.getElem?_set];by_cases e:i=t
 ·subst e
  rw[if_pos rfl,if_pos h];simp
 ·rw[if_neg e]
  have:¬ t=i:=fun h=>e h.symm;simp[this]
theorem zeK:∀ (l:List Nat) (b:List Bool) (t:Nat),l.Nodup→t<b.length→(l.foldl zbi b)[t]?.getD false=(b[t]?.getD false ^^ decide (t∈l))
 | [],b,t,_,_=>by simp
 | i::l,b,t,hn,h=>by
  rw[List.nodup_cons] at hn;rw[List.foldl_cons,zeK l _ t hn.2 (by rw[zfR];exact h),zjr _ _ _ h,Bool.xor_assoc]
  congr 1
  by_cases e:t=i
  ·subst e
   simp[hn.1]
  ·simp[e]
theorem zi3:∀ j,j<32→decide (∃ p∈powersL,j+1=32-p)=crcP.testBit j:=by decide
theorem zg9 (i:Nat):(powersL.map fun p=>i+32-p).Nodup:=by
 rw[List.Nodup,List.pairwise_map];have h:powersL.Pairwise fun a b=>b<a:=by decide
 have h2:∀ p∈powersL,p≤28:=by decide
 refine List.Pairwise.imp_of_mem ?_ h;intro a b ha hb hab e;have:=h2 a ha;have:=h2 b hb;omega
theorem zgH:∀ (l:List Bool) {x:Nat},x<4294967296→zbW x l<4294967296
 | [],_,h=>h
 | d::l,_,h=>zgH l (zf0 (Nat.xor_lt_two_pow (n:=32) h (by cases d <;> decide)))
theorem zim (D:List Bool) (b:List Bool) (hb:b.length=D.length) (h0:∀ t,t<D.length→b[t]?.getD false=(D[t]?.getD false ^^ (4294967295:Nat).testBit t)):∀ i,i+32≤D.length → ∀ t,i≤t→t<D.length→(divs b i)[t]?.getD false=(D[t]?.getD false ^^ (zbW 4294967295 (D.take i)).testBit (t-i))
 | 0,_,t,_,ht=>by
  rw[divs,h0 t ht];rfl
 | i+1,hi,t,hit,ht=>by
  have ih:=zim D b hb h0 i (by omega);have hlen:=zeo b i;have hid:=ih i (Nat.le_refl _) (by omega);have hit':=ih t (by omega) ht;have hlt:=zgH (D.take i) (show(4294967295:Nat)<4294967296 by omega);have hD:zbW 4294967295 (D.take (i+1))=zaE (zbW 4294967295 (D.take i)^^^(D[i]?.getD false).toNat):=by
   rw[List.take_succ_eq_append_getElem (by omega),zf1,List.getElem?_eq_getElem (by omega)];rfl
  have hdi:∀ j,0<j→((D[i]?.getD false).toNat).testBit j=false:=by
   intro j hj;cases D[i]?.getD false
   ·exact Nat.zero_testBit _
   ·exact Nat.testBit_lt_two_pow (show 1<2^j by have:=Nat.pow_le_pow_right (n:=2) (by omega) hj;omega)
  have hd0:((D[i]?.getD false).toNat).testBit 0=D[i]?.getD false:=by cases D[i]?.getD false <;> rfl
  rw[hD,zcF,Nat.testBit_xor,Nat.testBit_xor,hdi _ (by omega),Bool.xor_false,hd0,show t-(i+1)+1=t-i by omega];rw[Nat.sub_self] at hid;rw[divs];unfold zfc;rw[hid,Bool.xor_comm (D[i]?.getD false)];generalize zbW 4294967295 (D.take i)=R at *;by_cases ho:(R.testBit 0 ^^ D[i]?.getD false)=true
  ·rw[if_pos ho,zeK _ _ _ (zg9 i) (by omega),hit',ho,Bool.true_and]
   rw[Bool.xor_assoc]
   congr 2
   by_cases hj:t-(i+1)<32
   ·rw[←zi3 _ hj]
    have hp:∀ p∈powersL,p≤28:=by decide
    apply Bool.eq_iff_iff.2;rw[decide_eq_true_eq,decide_eq_true_eq,List.mem_map]
    constructor
    ·rintro⟨p,h1,h2⟩
     have:=hp p h1;exact⟨p,h1,by omega⟩
    ·rintro⟨p,h1,h2⟩
     have:=hp p h1;exact⟨p,h1,by omega⟩
   ·rw[Nat.testBit_lt_two_pow (show crcP<2^(t-(i+1)) from Nat.lt_of_lt_of_le (show crcP<2^32 by decide) (Nat.pow_le_pow_right (by omega) (by omega)))]
    rw[decide_eq_false_iff_not,List.mem_map];rintro⟨p,h1,h2⟩;omega
  ·rw[if_neg ho,hit']
   rw[Bool.not_eq_true] at ho;rw[ho,Bool.false_and,Bool.xor_false]
theorem zlo (y:Nat) (m:Nat):y >>> m=2*(y >>> (m+1))+(y.testBit m).toNat:=by
 rw[Nat.shiftRight_eq_div_pow,Nat.shiftRight_eq_div_pow,Nat.pow_succ,←Nat.div_div_eq_div_mul,Nat.testBit,Nat.shiftRight_eq_div_pow,Nat.and_comm,Nat.and_one_is_mod];have h:=Nat.div_add_mod (y/2^m) 2;have h2:=Nat.mod_two_eq_zero_or_one (y/2^m);rcases h2 with e | e
 ·rw[e] at h⊢;simp;omega
 ·rw[e] at h⊢;simp;omega
theorem zhY (t:Nat):(4294967295:Nat).testBit t=decide (t<32):=Nat.testBit_two_pow_sub_one 32 t
def za3 (D:List Bool) (k:Nat):List Bool:=(List.range k).foldl zbi D
theorem zib (D:List Bool) (k:Nat):za3 D (k+1)=zbi (za3 D k) k:=by
 unfold za3;rw[List.range_succ,List.foldl_append];rfl
theorem zc6 (D:List Bool) (k:Nat):(za3 D k).length=D.length:=zdy _ _
theorem zjs (D:List Bool) (t:Nat) (h:t<D.length):(za3 D 32)[t]?.getD false=(D[t]?.getD false ^^ (4294967295:Nat).testBit t):=by
 unfold za3;rw[zeK _ _ _ List.nodup_range h,zhY];simp
def zcG (l:List UInt8):List Bool:=zaD l++List.replicate 32 false
theorem zdG (l:List UInt8):(zcG l).length=8*l.length+32:=by simp[zcG,zbQ]
def topN (b:List Bool):Nat→Nat
 | 0=>0
 | k+1=>topN b k*2+(!(b[b.length-1-k]?.getD false)).toNat
theorem zhD (l:List UInt8):∀ k,k≤32→topN (divs (za3 (zcG l) 32) (8*l.length)) k=zaC l >>> (32-k)
 | 0,_=>by
  rw[Nat.shiftRight_eq_div_pow,Nat.div_eq_of_lt (zdC l)];rfl
 | k+1,hk=>by
  have hlen:(divs (za3 (zcG l) 32) (8*l.length)).length=8*l.length+32:=by rw[zeo,zc6,zdG]
  rw[topN,zhD l k (by omega),zlo _ (32-(k+1)),show 32-(k+1)+1=32-k by omega,Nat.mul_comm,hlen]
  congr 2
  rw[zim (zcG l) (za3 (zcG l) 32) (zc6 _ _) (fun t ht=>zjs _ t ht) (8*l.length) (by rw[zdG];omega) _ (by omega) (by rw[zdG];omega)];have h1:(zcG l)[8*l.length+32-1-k]?.getD false=false:=by
   unfold zcG;rw[List.getElem?_append_right (by rw[zbQ];omega),List.getElem?_replicate]
   split <;> rfl
  have h2:(zcG l).take (8*l.length)=zaD l:=by
   unfold zcG;rw[←zbQ,List.take_left'];rfl
  rw[h1,h2,Bool.false_xor,←zjz];unfold zaC;rw[Nat.testBit_xor,zhY,show 8*l.length+32-1-k-8*l.length=32-(k+1) by omega,decide_eq_true (show 32-(k+1)<32 by omega),Bool.xor_true]
theorem topN_32 (l:List UInt8):topN (divs (za3 (zcG l) 32) (8*l.length)) 32=zaC l:=by
 rw[zhD l 32 (Nat.le_refl _)];rfl
def zmj (n:Nat):List UInt8:=[UInt8.ofNat n,UInt8.ofNat (n/256),UInt8.ofNat (n/65536),UInt8.ofNat (n/16777216)]
def crcF (l:List UInt8):List UInt8:=zmj (zaC l)
theorem zep (l:List UInt8):(crcF l).length=4:=rfl
end
section
open Go.RowKit
theorem zf8 {a b:Nat} (ha:a<4294967296) (hb:b<4294967296):bits .xor .u32 (a:Int) (b:Int)=((a^^^b:Nat):Int):=by
 have h:=Nat.xor_lt_two_pow (n:=32) ha hb;unfold bits;simp;have h32:(2:Nat)^IntKind.u32.bits=4294967296:=rfl;rw[h32,Nat.mod_eq_of_lt ha,Nat.mod_eq_of_lt hb]
 show(((a^^^b:Nat):Int)).emod 4294967296=_
 exact Int.emod_eq_of_lt (by omega) (by omega)
theorem and_u32 {a:Nat} (ha:a<4294967296):bits .and .u32 (a:Int) 1=((a%2:Nat):Int):=by
 unfold bits;simp;have h32:(2:Nat)^IntKind.u32.bits=4294967296:=rfl;rw[h32,Nat.mod_eq_of_lt ha];rw[Nat.and_one_is_mod]
 show(((a%2:Nat):Int)).emod 4294967296=_
 exact Int.emod_eq_of_lt (by omega) (by omega)
theorem zir {x:Nat} (h:x%2=1):zaE x=(x/2)^^^crcP:=by unfold zaE;rw[if_pos h];rfl
theorem zjy {x:Nat} (h:¬ x%2=1):zaE x=x/2:=by unfold zaE;rw[if_neg h,Nat.xor_zero];rfl
def Reg (w:World) (q:Nat) (x:Nat):Ending→World→Prop:=fun en w'=>en=.returned (.tuple #[])∧Blk w' q 220 #[.int .u32 x]∧Keep (fun g=>g=q) w w'
theorem zg2 {w:World} {q:Nat} {v u:Value} {t:TypeId} (h:Blk w q t #[v]):Blk (w.setCell ⟨q,0,none⟩ u) q t #[u]∧Keep (fun g=>g=q) w (w.setCell ⟨q,0,none⟩ u):=
 ⟨h.set 0 u,(Keep.refl (fun g=>g=q) w).setCell (p:=⟨q,0,none⟩) (.inl rfl) u⟩
theorem zk6 (w:World) (q x:Nat) (hx:x<4294967296) (h:Blk w q 220 #[.int .u32 x]):Calls Tryz.prog 173 #[.pointer (some ⟨q,0,none⟩)] w (Reg w q (zaE x)):=by
 have c0:w.cell? ⟨q,0,none⟩=some (.int .u32 (x:Int)):=h.cell (i:=0) rfl;have lq:=h.lt;have fz:=h.frozen 0;have e2:=zf8 (a:=x/2) (b:=crcP) (by omega) (by decide);rw[show((crcP:Nat):Int)=2197175160 from rfl,show((x/2:Nat):Int)=(x:Int)/2 by omega] at e2;have e1:=and_u32 hx;rw[show((x%2:Nat):Int)=(x:Int)%2 by omega] at e1;have h1:=zg2 (u:=.int .u32 ((x:Int)/2)) h;have h2:=zg2 (u:=.int .u32 (((x/2)^^^crcP:Nat):Int)) h1.1;have HB1:=hid h1.1;have HK1:=hid h1.2;have HB2:=hid h2.1;have HK2:=hid (h1.2.trans h2.2);clear h1 h2;by_cases ho:x%2=1
 ·have HS:=hid (zir ho)
  have d1:((x:Int)%2==1)=true:=by simp;omega
  clear h ho hx;go_enter Tryz.func173,Tryz.ntmps173;go_wp2_with fail
  go_end0
  rw[←HS.out];rw[←HS.out] at HB2 HK2;exact⟨rfl,HB2.out,HK2.out⟩
 ·have HS:=hid (zjy ho)
  have d1:((x:Int)%2==1)=false:=by simp;omega
  clear h ho hx HB2 HK2;rw[show((x:Int)/2)=((x/2:Nat):Int) by omega,←HS.out] at HB1 HK1;go_enter Tryz.func173,Tryz.ntmps173;go_wp2_with fail
  go_end0
  rw[show((x:Int)/2)=((x/2:Nat):Int) by omega,←HS.out];exact⟨rfl,HB1.out,HK1.out⟩
theorem takeD {s:ByteArray} {k:Nat} (h:k<s.size):s.data.toList.take (k+1)=s.data.toList.take k++[s[k]]:=by
 have hl:k<s.data.toList.length:=by rw[Array.length_toList];exact h
 rw[List.take_succ_eq_append_getElem hl];rfl
theorem zk5 (w:World) (s:ByteArray) (hs:s.size≤1000000):Calls Tryz.prog 146 #[.string s] w (Ret (.int .i64 (zaC s.data.toList)) w):=by
 have HBit:=fun W q x hx h=>hid (zk6 W q x hx h);have HB0:=hid (Blk.new w 220 #[.int .u32 4294967295]);have HE0:=hid (Ext.alloc w (.cells #[.int .u32 4294967295] 220));go_enter Tryz.func146,Tryz.ntmps146;go_wp2_with fail
 obtain⟨q,hq⟩:∃ q,q=w.heap.size:=⟨_,rfl⟩
 rw[←hq] at HB0⊢;generalize w.alloc (.cells #[.int .u32 4294967295] 220)=w0 at HB0 HE0⊢;have hqn:w.heap.size≤q:=by omega
 clear hq;go_loopw [9] (fun i wr=>∃ k:Nat,k≤s.size∧i=.int .i64 k∧Hid (Blk wr q 220 #[.int .u32 (zbX (s.data.toList.take k))])∧Hid (Ext w wr)) (fun i _=>s.size-(intOf i).toNat)
 case atStart=>exact⟨0,by omega,rfl,HB0.out,HE0.out⟩
 case round=>
  obtain⟨k,hk,rfl,hB,hE⟩:=hrel;clear HB0 HE0;by_cases hlt:k<s.size
  ·have e1:decide ((k:Int)<s.size)=true:=decide_eq_true (by omega)
   have e1':decide (k<s.size)=true:=decide_eq_true hlt;have HS:Hid (zbX (s.data.toList.take (k+1))=zdD (zbX (s.data.toList.take k)) s[k].toNat):=by unfold Hid;rw[takeD hlt,zis]
   have hx:=zeN (s.data.toList.take k);have hb256:s[k].toNat<256:=UInt8.toNat_lt _;generalize zbX (s.data.toList.take k)=x at hB HS hx;have c0:wr.cell? ⟨q,0,none⟩=some (.int .u32 (x:Int)):=hB.out.cell (i:=0) rfl;have lq:=hB.out.lt;have fz:=hB.out.frozen 0;have eX:=zf8 (a:=x) (b:=s[k].toNat) hx (by omega);go_wp2_with fail
   refine zcr (Rel.ext) (pre:=?pre55) (z:=?z55) ?hpre55 ?hz55 (Ext.steady wr) (by kernel_rfl) (by kernel_rfl) (by kernel_rfl) (by kernel_rfl) ?_
   case hpre55=>(simp only[List.dropLast_cons_cons,List.dropLast_singleton];first | done | exact rfl)
   case hz55=>(simp only[List.getLast?_cons_cons,List.getLast?_singleton];first | done | exact rfl)
   repeat (first
    | (refine AWq.val rfl rfl rfl rfl (fun K hK=>?_);go_big_quiet_op;refine hK _ ?_;clear hK K)
    | (refine AWq.skip rfl rfl rfl ?_;simp only[Act.put,zq6,zq7,zq8]))
   refine AWq.last rfl rfl rfl (fun w2 x2=>?_);simp only[zo,Act.put,zq6,zq7,zq8];have HB2:=hid (hB.out.ext x2);have c2:w2.cell? ⟨q,0,none⟩=some (.int .u32 (x:Int)):=HB2.out.cell (i:=0) rfl;have lq2:=HB2.out.lt;have fz2:=HB2.out.frozen 0;have h1:=zg2 (u:=.int .u32 ((x^^^s[k].toNat:Nat):Int)) HB2.out;have HB3:=hid h1.1;have HE3:=hid (h1.2.toExt (hE.out.trans x2) (fun g hg=>by subst hg;exact hqn));have hx3:crcN 0 (x^^^s[k].toNat)<4294967296:=Nat.xor_lt_two_pow (n:=32) hx (by omega);have HS2:Hid (zbX (s.data.toList.take (k+1))=crcN 8 (x^^^s[k].toNat)):=HS.out;clear h1 c0 lq fz hB HS;go_wp2_with fail
   clear eX;generalize x^^^s[k].toNat=y at HB3 HE3 hx3 HS2⊢;generalize w2.setCell ⟨q,0,none⟩ (.int .u32 (y:Int))=w3 at HB3 HE3⊢;clear c2 fz2 lq2 HB2 x2;go_loopw [18] (fun jv wr3=>∃ j:Nat,j≤8∧jv=.int .i64 j∧Hid (Blk wr3 q 220 #[.int .u32 (crcN j y)])∧Hid (Ext w wr3)) (fun jv _=>8-(intOf jv).toNat)
   case atStart=>exact⟨0,by omega,rfl,HB3.out,HE3.out⟩
   case round=>
    obtain⟨j,hj,rfl,hBj,hEj⟩:=hrel;clear HB3 HE3;by_cases hj8:j<8
    ·have d1:decide ((j:Int)<8)=true:=decide_eq_true (by omega)
     have hlj:crcN j y<4294967296:=zhr j hx3;have HSj:=hid (zgJ j y);generalize crcN j y=z at hBj hlj HSj;go_wp2_with fail
     refine((HBit _ _ _ hlj hBj.out).out).mono ?_;rintro en w4 ⟨rfl,hb4,hk4⟩;have HB4:=hid hb4;have HE4:=hid (hk4.toExt hEj.out (fun g hg=>by subst hg;exact hqn));clear hb4 hk4;go_wp2_with fail
     go_roundw
     case rel=>exact⟨j+1,by omega,by go_num,by rw[HSj.out];exact HB4.out,HE4.out⟩
     case measure=>simp[intOf];omega
    ·obtain rfl:j=8:=by omega
     have d1:decide (((8:Nat):Int)<8)=false:=by decide
     go_wp2_with fail
     go_roundw
     case rel=>exact⟨k+1,by omega,by go_num,by rw[HS2.out];exact hBj.out,hEj.out⟩
     case measure=>simp[intOf];omega
  ·obtain rfl:k=s.size:=by omega
   rw[List.take_of_length_le (by rw[Array.length_toList];exact Nat.le_refl _)] at hB;have HS:Hid (4294967295^^^zbX s.data.toList=zaC s.data.toList):=Nat.xor_comm _ _;have hx:=zeN s.data.toList;have hy:=zdC s.data.toList;generalize zbX s.data.toList=x at hB HS hx;have eX:=zf8 (a:=4294967295) (b:=x) (by omega) hx;rw[HS.out,show((4294967295:Nat):Int)=IntKind.u32.max from rfl] at eX;have c0:wr.cell? ⟨q,0,none⟩=some (.int .u32 (x:Int)):=hB.out.cell (i:=0) rfl;have lq:=hB.out.lt;clear hlt hB;go_wp2_with fail
   go_ret;exact⟨by
    show Ending.returned (Value.int .i64 (wrap64 (zaC s.data.toList:Int)))=_
    rw[IntWalk.wrap64_in _ (by omega)],hE.out⟩
def zbM (n:Nat):ByteArray:=⟨(zmj n).toArray⟩
theorem zgK (w:World) (a b c d:Int):(convert 48 9 (.slice (some ⟨w.heap.size,0,none⟩) 4 4)).run Tryz.prog (w.alloc (.cells #[.int .u8 a,.int .u8 b,.int .u8 c,.int .u8 d] 5))=.ok (.string ⟨#[UInt8.ofNat a.toNat,UInt8.ofNat b.toNat,UInt8.ofNat c.toNat,UInt8.ofNat d.toNat]⟩) (w.alloc (.cells #[.int .u8 a,.int .u8 b,.int .u8 c,.int .u8 d] 5)):=by
 rw[run_convert_bytes_string _ _ _ 5 _ _ _ Tryz.underlying48 Tryz.underlying5 Tryz.underlying9];rw[run_bytesToString _ _ _ _ [a,b,c,d] (by simp[go_sem])];rfl
theorem zes {a b:Nat} (h:a%256=b%256):UInt8.ofNat a=UInt8.ofNat b:=by
 apply UInt8.toNat_inj.1;simpa using h
theorem zfQ {y:Nat} (hy:y<4294967296):(⟨#[UInt8.ofNat ((y:Int)%256).toNat,UInt8.ofNat ((y:Int)/256%256).toNat,UInt8.ofNat ((y:Int)/65536%256).toNat,UInt8.ofNat ((y:Int)/16777216).toNat]⟩:ByteArray)=zbM y:=by
 unfold zbM zmj;rw[zes (a:=((y:Int)%256).toNat) (b:=y) (by omega),zes (a:=((y:Int)/256%256).toNat) (b:=y/256) (by omega),zes (a:=((y:Int)/65536%256).toNat) (b:=y/65536) (by omega),zes (a:=((y:Int)/16777216).toNat) (b:=y/16777216) (by omega)]
theorem zfZ (w:World) (s:ByteArray) (hs:s.size≤1000000):Calls Tryz.prog 108 #[.string s] w (Ret (.string (zbM (zaC s.data.toList))) w):=by
 have HSum:=fun W=>hid (zk5 W s hs);have hy:=zdC s.data.toList;generalize zaC s.data.toList=y at HSum hy⊢;go_enter Tryz.func108,Tryz.ntmps108;go_wp2_with (go_at_call 146;refine((HSum _).out).mono ?_;rintro e w1 ⟨rfl,x1⟩)
 rw[zgK,zfQ hy];go_wp2_with fail
 go_ret;exact⟨rfl,x1.alloc' _⟩
def chkZ (t f:ByteArray):Int:=if f.size≠4 then 5 else if f=zbM (zaC t.data.toList) then 0 else 7
theorem zio (w:World) (s f:ByteArray) (hs:s.size≤1000000):Calls Tryz.prog 63 #[.string s,.string f] w (Ret (.int .i64 (chkZ s f)) w):=by
 have H4:=fun W=>hid (zfZ W s hs);unfold chkZ;generalize zbM (zaC s.data.toList)=t at H4⊢;by_cases h4:f.size≠4
 ·rw[if_pos h4]
  have d0:((f.size:Int) != 4)=true:=by simp;omega
  clear h4;go_enter Tryz.func63,Tryz.ntmps63;go_wp2_with fail
  go_ret;exact⟨rfl,Ext.refl _⟩
 ·rw[if_neg h4]
  have d0:((f.size:Int) != 4)=false:=by simp;omega
  clear h4;by_cases he:f=t
  ·rw[if_pos he]
   have d1:(f.toList==t.toList)=true:=by rw[he];simp
   clear he;go_enter Tryz.func63,Tryz.ntmps63;go_wp2_with (go_at_call 108;refine((H4 _).out).mono ?_;rintro e w1 ⟨rfl,x1⟩)
   go_ret;exact⟨rfl,x1⟩
  ·rw[if_neg he]
   have d1:(f.toList==t.toList)=false:=by
    rw[beq_eq_false_iff_ne];intro e;rw[Lib.toList_data,Lib.toList_data] at e;exact he (ByteArray.ext (Array.ext' e))
   clear he;go_enter Tryz.func63,Tryz.ntmps63;go_wp2_with (go_at_call 108;refine((H4 _).out).mono ?_;rintro e w1 ⟨rfl,x1⟩)
   go_ret;exact⟨rfl,x1⟩
end
section
def zaL (b:List UInt8):List UInt8:=lebL b.length++(b++crcF b)
theorem zdW (b:List UInt8):(zaL b).length=(lebL b.length).length+b.length+4:=by
 unfold zaL;rw[List.length_append,List.length_append,zep];omega
end
section
open Go.RowKit
theorem takee_c (w:World) (q:Nat) (s:ByteArray) (e:Int) (k:Nat) (h:InAt w q s e) (h0:e≠0) (hk:k≤9223372036854775807):Calls Tryz.prog 109 #[.pointer (some ⟨q,0,none⟩),.int .i64 k] w (fun en w'=>en=.returned (.string ⟨#[]⟩)∧Keep (fun g=>g=q) w w'∧InAt w' q s e):=by
 have HLf:=fun W (s':ByteArray) (e':Int) (h':InAt W q s' e')=>hid (zfM W q s' e' h');have HEr:=fun W (s':ByteArray) (e':Int) (h':InAt W q s' e')=>hid (zgF W q s' e' h');have HFa:=fun W (s':ByteArray) (e' k':Int) (h':InAt W q s' e')=>hid (zfV W q s' e' k' h');have H:=hid h;clear h;have hd:(e != 0)=true:=by simp[h0]
 have hl:zdO s e=0:=if_neg h0;have hf:zgE e 5=e:=if_neg h0;have HL0:=fun W (h':InAt W q s e)=>HLf W s e h';have HF0:=fun W (h':InAt W q s e)=>HFa W s e 5 h';rw[hl] at HL0;rw[hf] at HF0;clear hl hf HLf HFa h0;rcases k with _ | k
 ·go_enter Tryz.func109,Tryz.ntmps109
  go_wp2_with fail
  refine((HL0 _ H.out).out).mono ?_;rintro e w1 ⟨rfl,x1⟩;have H1:=hid (H.out.ext x1);have K1:=hid (Keep.of_ext (S:=fun g=>g=q) x1);clear x1;go_wp2_with fail
  refine((HEr _ _ _ H1.out).out).mono ?_;rintro e w3 ⟨rfl,x3⟩;have H3:=hid (H1.out.ext x3);have K3:=hid (K1.out.ext x3);clear x3;go_wp2_with fail
  go_ret;exact⟨rfl,K3.out,H3.out⟩
 ·have d0:decide ((0:Int)<(k:Int)+1)=true:=decide_eq_true (by omega)
  go_enter Tryz.func109,Tryz.ntmps109;go_wp2_with fail
  refine((HL0 _ H.out).out).mono ?_;rintro e w1 ⟨rfl,x1⟩;have H1:=hid (H.out.ext x1);have K1:=hid (Keep.of_ext (S:=fun g=>g=q) x1);clear x1;go_wp2_with fail
  refine((HF0 _ H1.out).out).mono ?_;rintro e w2 ⟨rfl,k2,h2⟩;have H2:=hid h2;have K2:=hid (K1.out.trans k2);clear k2 h2;go_wp2_with fail
  refine((HEr _ _ _ H2.out).out).mono ?_;rintro e w3 ⟨rfl,x3⟩;have H3:=hid (H2.out.ext x3);have K3:=hid (K2.out.ext x3);clear x3;go_wp2_with fail
  go_ret;exact⟨rfl,K3.out,H3.out⟩
theorem tx_c (w:World) (q:Nat) (s:ByteArray) (h:InAt w q s 0) (hs:s.size≤1000000):Calls Tryz.prog 60 #[.pointer (some ⟨q,0,none⟩)] w (fun en w'=>∃ (t s':ByteArray) (e':Int),en=.returned (.string t)∧Keep (fun g=>g=q) w w'∧InAt w' q s' e'∧zal s.data.toList=(e',t.data.toList,s'.data.toList)):=by
 have HN:=hid (nx_c w q s h hs);have HTk:=fun W (s':ByteArray) (z:Nat) (h':InAt W q s' 0) (hs':s'.size≤1000000) (hz:z≤9223372036854775807)=>hid (zjO W q s' z h' hs' hz);have HTe:=fun W (s':ByteArray) (e':Int) (z:Nat) (h':InAt W q s' e') (h0:e'≠0) (hz:z≤9223372036854775807)=>hid (takee_c W q s' e' z h' h0 hz);clear h;go_enter Tryz.func60,Tryz.ntmps60;go_wp2_with fail
 refine(HN.out).mono ?_;rintro en w1 ⟨z,s1,e1,rfl,k1,h1,hs1,hr1⟩;have hz:z<9223372036854775808:=by
  have:=zhc 9 0 0 s.data.toList rfl (by omega);have e:numF 9 0 0 s.data.toList=(e1,z,s1.data.toList):=hr1;rw[e] at this;exact this
 have HK1:=hid k1;have HI1:=hid h1;have HR1:=hid hr1;clear k1 h1 hr1 HN;go_wp2_with fail
 by_cases he:e1=0
 ·subst he
  refine((HTk _ _ z HI1.out (by omega) (by omega)).out).mono ?_;rintro en w2 ⟨t,s2,e2,rfl,k2,h2,ht⟩;have HK2:=hid (HK1.out.trans k2);have HI2:=hid h2;clear k2 h2 HTk HTe;have HX:Hid (zal s.data.toList=(e2,t.data.toList,s2.data.toList)):=by
   unfold Hid zal;rw[HR1.out];dsimp only;have hl:s1.data.toList.length=s1.size:=by rw[Array.length_toList];rfl
   rw[if_pos rfl,hl];rcases ht with⟨a1,rfl,rfl,rfl⟩ | ⟨a1,rfl,rfl,rfl⟩
   ·rw[if_pos a1]
   ·rw[if_neg (by omega)]
    have hx1:(s1.extract 0 z).data.toList=s1.data.toList.take z:=by
     rw[ByteArray.data_extract,Array.toList_extract,List.extract_eq_take_drop,List.drop_zero,Nat.sub_zero]
    have hx2:(s1.extract z s1.size).data.toList=s1.data.toList.drop z:=by
     rw[ByteArray.data_extract,Array.toList_extract,List.extract_eq_take_drop,List.take_of_length_le];rw[List.length_drop,hl];exact Nat.le_refl _
    rw[hx1,hx2]
  clear ht HR1 HI1 HK1;go_wp2_with fail
  go_ret;exact⟨_,_,_,rfl,HK2.out,HI2.out,HX.out⟩
 ·refine((HTe _ _ _ z HI1.out he (by omega)).out).mono ?_
  rintro en w2 ⟨rfl,k2,h2⟩;have HK2:=hid (HK1.out.trans k2);have HI2:=hid h2;clear k2 h2 HTk HTe;have HX:Hid (zal s.data.toList=(e1,[],s1.data.toList)):=by
   unfold Hid zal;rw[HR1.out];dsimp only;rw[if_neg he]
  clear HR1 HI1 HK1 he;go_wp2_with fail
  go_ret;exact⟨_,_,_,rfl,HK2.out,HI2.out,HX.out⟩
def chk0 (t rest:List UInt8):Int:=if rest.length<4 then 5 else if rest.take 4=crcF t then 0 else 7
def zas (s:List UInt8):List UInt8×Nat×Int:=
 if(zal s).1≠0 then([],0,(zal s).1)
 else if chk0 (zal s).2.1 (zal s).2.2≠0 then([],0,chk0 (zal s).2.1 (zal s).2.2)
 else((zal s).2.1,s.length-(zal s).2.2.length+4,0)
def zc9 (s:ByteArray):Value:=.tuple #[.string ⟨(zas s.data.toList).1.toArray⟩,.int .i64 (zas s.data.toList).2.1,.int .i64 (zas s.data.toList).2.2]
theorem chkZ_0 (t r:ByteArray):chkZ t (r.extract 0 (min 4 r.size))=chk0 t.data.toList r.data.toList:=by
 unfold chkZ chk0;have hl:r.data.toList.length=r.size:=by rw[Array.length_toList];rfl
 have hx:(r.extract 0 (min 4 r.size)).data.toList=r.data.toList.take (min 4 r.size):=by
  rw[ByteArray.data_extract,Array.toList_extract,List.extract_eq_take_drop,List.drop_zero,Nat.sub_zero]
 have hz:(r.extract 0 (min 4 r.size)).size=min 4 r.size:=by rw[ByteArray.size_extract];omega
 rw[hz,hl];by_cases h4:r.size<4
 ·rw[if_pos (by omega),if_pos h4]
 ·rw[if_neg (by omega),if_neg h4,show min 4 r.size=4 by omega]
  rw[show min 4 r.size=4 by omega] at hx;have e:(r.extract 0 4=zbM (zaC t.data.toList))↔(r.data.toList.take 4=crcF t.data.toList):=by
   constructor
   ·intro h
    rw[←hx,h];rfl
   ·intro h
    apply ByteArray.ext;apply Array.ext';rw[hx,h];rfl
  by_cases h:r.data.toList.take 4=crcF t.data.toList
  ·rw[if_pos h,if_pos (e.2 h)]
  ·rw[if_neg h,if_neg (fun h'=>h (e.1 h'))]
end
section
open Go.RowKit
theorem zeE:∀ (f i acc:Nat) (s:List UInt8),∃ k,k≤s.length∧(numF f i acc s).2.2=s.drop k
 | 0,_,_,s=>⟨0,Nat.zero_le _,rfl⟩
 | _+1,_,_,[]=>⟨0,Nat.zero_le _,rfl⟩
 | f+1,i,acc,c::r=>by
  by_cases h:128≤c.toNat
  ·rw[zcm h]
   obtain⟨k,h1,h2⟩:=zeE f (i+1) (acc+c.toNat%128*128^i) r;exact⟨k+1,by rw[List.length_cons];omega,by rw[h2,List.drop_succ_cons]⟩
  ·by_cases hz:c.toNat=0∧0<i
   ·rw[zdn h hz];exact⟨1,by simp,rfl⟩
   ·rw[zcQ h hz];exact⟨1,by simp,rfl⟩
theorem zfp (s:List UInt8):(zal s).2.2=s.drop (s.length-(zal s).2.2.length):=by
 have key:∃ k,k≤s.length∧(zal s).2.2=s.drop k:=by
  obtain⟨k,h1,h2⟩:=zeE 9 0 0 s;have h2:(num0 s).2.2=s.drop k:=h2;unfold zal
  split
  ·split
   ·exact⟨k,h1,h2⟩
   ·dsimp only
    rename_i h3
    rw[h2,List.length_drop] at h3;rw[h2,List.drop_drop];exact⟨_,by omega,rfl⟩
  ·exact⟨k,h1,h2⟩
 obtain⟨k,h1,h2⟩:=key;rw[h2,List.length_drop,show s.length-(s.length-k)=k by omega]
theorem zew (s:List UInt8):(zal s).2.2.length≤s.length∧(zal s).2.1.length≤s.length:=by
 have h1:(num0 s).2.2.length≤s.length:=zh0 9 0 0 s;unfold zal
 split
 ·split
  ·exact⟨h1,Nat.zero_le _⟩
  ·dsimp only
   rw[List.length_drop,List.length_take];omega
 ·exact⟨h1,Nat.zero_le _⟩
theorem back_B (s:ByteArray):(⟨s.data.toList.toArray⟩:ByteArray)=s:=by apply ByteArray.ext;simp
theorem first_c (w:World) (s:ByteArray) (hs:s.size≤1000000):Calls Tryz.prog 23 #[.string s] w (Ret (zc9 s) w):=by
 have HO:=fun W=>hid (zb3 W s);have HT:=fun W q (h:InAt W q s 0)=>hid (tx_c W q s h hs);have HE:=fun W q (s':ByteArray) (e':Int) (h:InAt W q s' e')=>hid (zgF W q s' e' h);have HL:=fun W q (s':ByteArray) (h:InAt W q s' 0)=>hid (zfM W q s' 0 h);have HC:=fun W (t f:ByteArray) (ht:t.size≤1000000)=>hid (zio W t f ht);go_enter Tryz.func23,Tryz.ntmps23;go_wp2_with (go_at_call 25;refine((HO _).out).mono ?_;rintro e w1 ⟨v1,rfl,⟨q,rfl,hq,hi⟩,hx⟩;have HX1:=hid hx;have HI1:=hid hi;have HQ:=hid hq;clear hx hi hq)
 refine((HT _ _ HI1.out).out).mono ?_;rintro en w2 ⟨t,s2,e2,rfl,k2,h2,ht⟩;have HX2:=hid (k2.toExt HX1.out (fun g hg=>by subst hg;exact HQ.out));have HI2:=hid h2;clear k2 h2 HX1 HI1 HO HT;go_wp2_with fail
 refine((HE _ _ _ _ HI2.out).out).mono ?_;rintro en w3 ⟨rfl,x3⟩;have HX3:=hid (HX2.out.trans x3);have HI3:=hid (HI2.out.ext x3);clear x3 HX2 HI2 HE;have hl2:s2.data.toList.length=s2.size:=by rw[Array.length_toList];rfl
 have hlt:t.data.toList.length=t.size:=by rw[Array.length_toList];rfl
 have hls:s.data.toList.length=s.size:=by rw[Array.length_toList];rfl
 have hlen:=zew s.data.toList;have hdrop:=zfp s.data.toList;rw[ht] at hlen hdrop;dsimp only at hlen hdrop;rw[hl2,hlt,hls] at hlen;rw[hl2,hls] at hdrop;by_cases he:e2=0
 ·subst he
  have HF:Hid (∀ z,chk0 t.data.toList s2.data.toList=z→zc9 s=if z=0 then .tuple #[.string t,.int .i64 ((s.size-s2.size+4:Nat):Int),.int .i64 0] else .tuple #[.string ⟨#[]⟩,.int .i64 0,.int .i64 z]):=fun z hz=>by
   unfold zc9 zas;rw[ht];dsimp only;rw[if_neg (by simp),hz,hl2,hls];by_cases h0:z=0
   ·rw[if_neg (by simp[h0]),if_pos h0,back_B]
   ·rw[if_pos h0,if_neg h0];rfl
  have hcut:s.extract (s.size-s2.size) s.size=s2:=by
   apply ByteArray.ext;apply Array.ext';rw[ByteArray.data_extract,Array.toList_extract,List.extract_eq_take_drop,←hdrop,List.take_of_length_le];rw[hl2];omega
  have HCut:=hid hcut;have HChk:=hid (chkZ_0 t s2);have hn1:s2.size≤s.size:=hlen.1;have hn2:t.size≤s.size:=hlen.2;clear ht hdrop hlen hl2 hlt hls hcut;go_wp2_with fail
  refine((HL _ _ _ HI3.out).out).mono ?_;rintro en w4 ⟨rfl,x4⟩;have HX4:=hid (HX3.out.trans x4);clear x4 HX3 HI3 HL;rw[show zdO s2 0=(s2.size:Int) from if_pos rfl];obtain⟨n,hn⟩:∃ n,s.size-s2.size=n:=⟨_,rfl⟩
  have hni:(s.size:Int)-(s2.size:Int)=(n:Int):=by omega
  have hnle:n≤s.size:=by omega
  rw[hn] at HCut HF;clear hn;have hcut:=HCut.out;clear HCut;go_wp2_with fail
  rw[show(min (4:Int) (s2.size:Int)).toNat=min 4 s2.size by omega];refine((HC _ _ _ (by omega)).out).mono ?_;rintro en w5 ⟨rfl,x5⟩;have HX5:=hid (HX4.out.trans x5);clear x5 HX4 HC hcut;rw[HChk.out];clear HChk;generalize chk0 t.data.toList s2.data.toList=z at HF⊢;have hF:=HF.out z rfl;cases hz:(z != 0) with
  | true=>
   have hz0:z≠0:=by simpa using hz
   rw[if_neg hz0] at hF;have HF:=hid hF;clear hz0 hF;go_wp2_with fail
   go_ret3
   exact⟨by rw[HF.out];rfl,HX5.out⟩
  | false=>
   have hz0:z=0:=by simpa using hz
   rw[if_pos hz0,show((n+4:Nat):Int)=(n:Int)+4 by omega] at hF;have HF2:=hid hF;subst hz0;clear hF HF;go_wp2_with fail
   go_ret3
   exact⟨by rw[HF2.out];rfl,HX5.out⟩
 ·have HF:Hid (zc9 s=.tuple #[.string ⟨#[]⟩,.int .i64 0,.int .i64 e2]):=by
   unfold Hid zc9 zas;rw[ht];dsimp only;rw[if_pos he];rfl
  have hd:(e2 != 0)=true:=by simp[he]
  clear ht he hlen hdrop hl2 hlt hls HL HC;go_wp2_with fail
  go_ret3
  exact⟨by rw[HF.out];rfl,HX3.out⟩
end
section
open Go.RowKit
def zgR (b:Bool):List Value:=[.bool b]
theorem zf6:Coded zgR 1:=⟨fun _=>rfl,fun a u hu=>by simp[zgR] at hu;rw[hu];rfl⟩
theorem zld:(Tryz.prog.info? 4).map (fun i=>(i.zero,i.size,i.bytes))=some (some (.bool false),1,1):=by kernel_rfl
theorem zgQ:Elem Tryz.prog 185 4 1 1:=by
 obtain⟨i0,h0,h1,h2,h3⟩:=info_parts zld;exact⟨Tryz.underlying185,i0,_,h0,h1,h2,h3,rfl⟩
theorem zgd {c k:Nat} (h:k<8):(zaO c).take (k+1)=(zaO c).take k++[c.testBit k]:=by
 have hl:k<(zaO c).length:=by simp[zaO];exact h
 rw[List.take_succ_eq_append_getElem hl];simp[zaO]
theorem zhu (c:Nat):(zaO c).take 8=zaO c:=List.take_of_length_le (by simp[zaO])
theorem div_bit (c k:Nat):((c/2^k:Nat):Int)%2=(c.testBit k).toNat:=by
 rw[Nat.testBit,Nat.shiftRight_eq_div_pow,Nat.and_comm,Nat.and_one_is_mod];generalize c/2^k=m;rw[show(m:Int)%2=((m%2:Nat):Int) by omega];rcases Nat.mod_two_eq_zero_or_one m with e | e
 ·rw[e];rfl
 ·rw[e];rfl
def zdK (l:List Bool) (B:Nat) (v:Value) (w:World):Prop:=w.ownsRow B 4 1 v l.length (l.map zgR).flatten
theorem rbits_c (w:World) (s:ByteArray) (hs:s.size≤100000):Calls Tryz.prog 133 #[.string s] w (RetQ (zdK (zcG s.data.toList) w.heap.size) w):=by
 go_enter Tryz.func133,Tryz.ntmps133;go_wp2_with fail
 go_loopw [3,4] (fun ou i wr=>∃ k:Nat,k≤s.size∧i=.int .i64 k∧Hid (Ext w wr)∧zdK (zaD (s.data.toList.take k)) w.heap.size ou wr) (fun _ i _=>s.size-(intOf i).toNat)
 case atStart=>exact⟨0,by omega,rfl,Ext.refl _,zw _ _ _ _⟩
 case round=>
  obtain⟨k,hk,rfl,hE,hO⟩:=hrel;have HO:=hid hO;clear hO;by_cases hlt:k<s.size
  ·have e1:decide ((k:Int)<s.size)=true:=decide_eq_true (by omega)
   have e1':decide (k<s.size)=true:=decide_eq_true hlt;have HS:Hid (zaD (s.data.toList.take (k+1))=zaD (s.data.toList.take k)++zaO s[k].toNat):=by unfold Hid;rw[takeD hlt,zga]
   have hlen:(zaD (s.data.toList.take k)).length≤800000:=by rw[zbQ,List.length_take];omega
   have hb256:s[k].toNat<256:=UInt8.toNat_lt _;generalize zaD (s.data.toList.take k)=acc at HO HS hlen;go_wp2_with fail
   generalize s[k].toNat=c at HS hb256⊢;go_loopw [3,5,6] (fun ou nv jv wr3=>∃ j:Nat,j≤8∧jv=.int .i64 j∧nv=.int .i64 ((c/2^j:Nat):Int)∧Hid (Ext w wr3)∧zdK (acc++(zaO c).take j) w.heap.size ou wr3) (fun _ _ jv _=>8-(intOf jv).toNat)
   case atStart=>exact⟨0,by omega,rfl,by simp,hE.out,by simpa using HO.out⟩
   case round=>
    clear HO;obtain⟨j,hj,rfl,rfl,hEj,hOj⟩:=hrel;have HOj:=hid hOj;clear hOj;by_cases hj8:j<8
    ·have d1:decide ((j:Int)<8)=true:=decide_eq_true (by omega)
     have HB:=hid (zgd (c:=c) hj8);have hbit:=div_bit c j;have hle:c/2^j≤256:=Nat.le_trans (Nat.div_le_self _ _) (by omega);have HDv:Hid (c/2^(j+1)=c/2^j/2):=by unfold Hid;rw[Nat.pow_succ,Nat.div_div_eq_div_mul]
     have hla:(acc++(zaO c).take j).length≤1000000:=by rw[List.length_append,List.length_take];omega
     obtain⟨v',w6,hrun6,ho6,hk6,_⟩:=zaP (P:=Tryz.prog) zgQ zf6 HOj.out hEj.out.size (c.testBit j) hla (by omega);have HE6:=hid (hk6.toExt hEj.out (fun q hq=>(zC HOj.out q hq).1));have HO6:=hid ho6;clear ho6 hk6 HOj;generalize c/2^j=m at hbit hle HDv⊢;have hb2:((m:Int)%2==1)=c.testBit j:=by rw[hbit];cases c.testBit j <;> rfl
     simp only[zgR] at hrun6;generalize c.testBit j=b at hbit hb2 hrun6 HB HO6;clear hbit;go_wp2_with (at_builtin;refine zD rfl (.tmp 22) (.tmp 26) _ _ rfl rfl rfl hrun6 ?_)
     go_roundw
     case rel=>exact⟨j+1,by omega,by go_num,by rw[HDv.out];go_num,HE6.out,by rw[HB.out,←List.append_assoc];exact HO6.out⟩
     case measure=>simp[intOf];omega
    ·obtain rfl:j=8:=by omega
     have d1:decide (((8:Nat):Int)<8)=false:=by decide
     go_wp2_with fail
     go_roundw
     case rel=>exact⟨k+1,by omega,by go_num,hEj.out,by rw[HS.out];rw[zhu] at HOj;exact HOj.out⟩
     case measure=>simp[intOf];omega
  ·obtain rfl:k=s.size:=by omega
   rw[List.take_of_length_le (by rw[Array.length_toList];exact Nat.le_refl _)] at HO;have hlen:(zaD s.data.toList).length≤800000:=by rw[zbQ,Array.length_toList];show 8*s.size≤_;omega
   clear hlt;go_wp2_with fail
   go_loopw [3,7] (fun ou jv wr3=>∃ j:Nat,j≤32∧jv=.int .i64 j∧Hid (Ext w wr3)∧zdK (zaD s.data.toList++List.replicate j false) w.heap.size ou wr3) (fun _ jv _=>32-(intOf jv).toNat)
   case atStart=>exact⟨0,by omega,rfl,hE.out,by simpa using HO.out⟩
   case round=>
    clear HO hE;obtain⟨j,hj,rfl,hEj,hOj⟩:=hrel;have HOj:=hid hOj;clear hOj;by_cases hj8:j<32
    ·have d1:decide ((j:Int)<32)=true:=decide_eq_true (by omega)
     have hla:(zaD s.data.toList++List.replicate j false).length≤1000000:=by rw[List.length_append,List.length_replicate];omega
     obtain⟨v',w6,hrun6,ho6,hk6,_⟩:=zaP (P:=Tryz.prog) zgQ zf6 HOj.out hEj.out.size false hla (by omega);have HE6:=hid (hk6.toExt hEj.out (fun q hq=>(zC HOj.out q hq).1));have HO6:=hid ho6;clear ho6 hk6 HOj;simp only[zgR] at hrun6;go_wp2_with (at_builtin;refine zD rfl (.tmp 34) (.tmp 35) _ _ rfl rfl rfl hrun6 ?_)
     go_roundw
     case rel=>exact⟨j+1,by omega,by go_num,HE6.out,by rw[List.replicate_succ',←List.append_assoc];exact HO6.out⟩
     case measure=>simp[intOf];omega
    ·obtain rfl:j=32:=by omega
     have d1:decide (((32:Nat):Int)<32)=false:=by decide
     go_wp2_with fail
     go_ret;exact⟨_,rfl,HOj.out,hEj.out⟩
def intC (n:Nat):List Value:=[.int .i64 n]
theorem zkp (w:World):Calls Tryz.prog 134 #[] w (RetQ (fun v w'=>∃ b,v=.slice (some ⟨b,0,none⟩) 17 17∧w.heap.size≤b∧b<w'.heap.size ∧ ∀ k (h:k<powersL.length),w'.cell? ⟨b,k,none⟩=some (.int .i64 (powersL[k]:Nat))) w):=by
 have HN:=hid (Blk.new w 3 ((powersL.map intC).flatten).toArray);have HC:Hid (∀ k (h:k<powersL.length),((powersL.map intC).flatten).toArray[k]? = some (.int .i64 (powersL[k]:Nat))):=by
  intro k h;have h17:k<17:=h;rcases k with _ | _ | _ | _ | _ | _ | _ | _ | _ | _ | _ | _ | _ | _ | _ | _ | _ | k
  all_goals first
   | rfl
   | omega
 go_enter Tryz.func134,Tryz.ntmps134;go_wp2_with fail
 go_ret;exact⟨_,rfl,⟨_,rfl,Nat.le_refl _,HN.out.lt,fun k h=>HN.out.cell (HC.out k h)⟩,Ext.alloc _ _⟩
def Bits (w:World) (g:Nat) (l:List Bool):Prop:=∃ cs:Array Value,Blk w g 4 cs ∧ ∀ (t:Nat) (b:Bool),l[t]? = some b→cs[t]? = some (Value.bool b)
theorem Bits.ext {w w':World} {g:Nat} {l:List Bool} (h:Bits w g l) (he:Ext w w'):Bits w' g l:=by
 obtain⟨cs,h1,h2⟩:=h;exact⟨cs,h1.ext he,h2⟩
theorem Bits.cell {w:World} {g:Nat} {l:List Bool} (h:Bits w g l) {t:Nat} (ht:t<l.length):w.cell? ⟨g,t,none⟩=some (.bool (l[t]?.getD false)):=by
 obtain⟨cs,h1,h2⟩:=h;rw[List.getElem?_eq_getElem ht];exact h1.cell (h2 t _ (List.getElem?_eq_getElem ht))
theorem Bits.lt {w:World} {g:Nat} {l:List Bool} (h:Bits w g l):g<w.heap.size:=by
 obtain⟨cs,h1,_⟩:=h;exact h1.lt
theorem Bits.frozen {w:World} {g:Nat} {l:List Bool} (h:Bits w g l) (t:Nat):w.frozen? ⟨g,t,none⟩=false:=by
 obtain⟨cs,h1,_⟩:=h;exact h1.frozen t
theorem Bits.flip {w:World} {g:Nat} {l:List Bool} (h:Bits w g l) {t:Nat} (ht:t<l.length):Bits (w.setCell ⟨g,t,none⟩ (.bool (!(l[t]?.getD false)))) g (zbi l t)∧Keep (fun q=>q=g) w (w.setCell ⟨g,t,none⟩ (.bool (!(l[t]?.getD false)))):=by
 obtain⟨cs,h1,h2⟩:=h;have hc:=(Array.getElem?_eq_some_iff.1 (h2 t _ (List.getElem?_eq_getElem ht))).1;refine⟨⟨_,h1.set t _,fun u b hu=>?_⟩,(Keep.refl (fun q=>q=g) w).setCell (p:=⟨g,t,none⟩) (.inl rfl) _⟩;unfold zbi at hu;rw[Array.getElem?_setIfInBounds];rw[List.getElem?_set] at hu;by_cases e:t=u
 ·rw[if_pos e] at hu⊢
  subst e;rw[if_pos ht] at hu;rw[if_pos hc];injection hu with hu
  rw[hu]
 ·rw[if_neg e] at hu⊢
  exact h2 u b hu
theorem bits_of {w:World} {l:List Bool} {B:Nat} {v:Value} (h:zdK l B v w) (hl:0<l.length):∃ g c,v=.slice (some ⟨g,0,none⟩) l.length c∧l.length≤c∧c≤9223372036854775807∧B≤g∧Bits w g l:=by
 unfold zdK at h;rcases h.2 with⟨_,h0⟩ | ⟨g,cap,cur,hv,hb,hg,r⟩
 ·omega
 ·obtain⟨r1,r2,r3,r4⟩:=r
  unfold maxLen at r2;refine⟨g,cap,hv,r1,r2,hb,cur,hg,fun t b ht=>?_⟩;have hlt:t<l.length:=(List.getElem?_eq_some_iff.1 ht).1;have e:(l.map zgR).flatten=l.map Value.bool:=by
   clear r4 ht hlt r1 hv h hl
   induction l with
   | nil=>rfl
   | cons x l ih=>rw[List.map_cons,List.flatten_cons,ih];rfl
  rw[Nat.mul_one,e] at r4;have h5:(cur.toList.take l.length)[t]? = some (Value.bool b):=by rw[r4,List.getElem?_map,ht];rfl
  rw[List.getElem?_take,if_pos hlt] at h5;simpa using h5
end
section
open Go.RowKit
theorem zk4 (b:List Bool) (i:Nat):divs b (i+1)=if(divs b i)[i]?.getD false then(powersL.map fun p=>i+32-p).foldl zbi (divs b i) else divs b i:=rfl
theorem zjq (b:List Bool) (i k:Nat) (h:k<powersL.length):((powersL.take (k+1)).map fun p=>i+32-p).foldl zbi b=zbi (((powersL.take k).map fun p=>i+32-p).foldl zbi b) (i+32-powersL[k]):=by
 rw[List.take_succ_eq_append_getElem h,List.map_append,List.foldl_append];rfl
theorem zkw:∀ k (h:k<powersL.length),powersL[k]≤28:=by decide
theorem zjM (b:List Bool):∀ k,topN b k<2^k
 | 0=>by simp[topN]
 | k+1=>by
  have:=zjM b k;rw[topN,Nat.pow_succ];have h:(!(b[b.length-1-k]?.getD false)).toNat≤1:=Bool.toNat_le _;omega
theorem pow_32 (k:Nat) (h:k≤32):2^k≤4294967296:=Nat.pow_le_pow_right (n:=2) (by omega) h
theorem zkL {S:Nat→Prop} {w w':World} (k:Keep S w w') {b o:Nat} {v:Value} (hb:b<w.heap.size) (hs:¬ S b) (h:w.cell? ⟨b,o,none⟩=some v):w'.cell? ⟨b,o,none⟩=some v:=by
 have hk:=k.block b hb hs;unfold World.cell? at h⊢;rw[hk];exact h
theorem rsum_c (w:World) (s:ByteArray) (hs:s.size≤100000):Calls Tryz.prog 85 #[.string s] w (Ret (.int .i64 (zaC s.data.toList)) w):=by
 have HB:=fun W=>hid (rbits_c W s hs);have HP:=fun W=>hid (zkp W);have HTop:=hid (topN_32 s.data.toList);have hlen:(zcG s.data.toList).length=8*s.size+32:=by rw[zdG,Array.length_toList];rfl
 generalize zcG s.data.toList=D at HB HTop hlen;have hs8:s.data.toList.length=s.size:=by rw[Array.length_toList];rfl
 rw[hs8] at HTop;obtain⟨N,hN⟩:∃ N,D.length=N:=⟨_,rfl⟩
 have HN2:Hid (N=8*s.size+32):=hN.symm.trans hlen;have hN3:32≤N:=by omega
 have hN4:N≤1000000:=by omega
 clear hlen;go_enter Tryz.func85,Tryz.ntmps85;go_wp2_with (go_at_call 133;refine((HB _).out).mono ?_;rintro e w1 ⟨v1,rfl,hb1,x1⟩;obtain⟨g,c,rfl,g1,g2,g3,hb1⟩:=bits_of hb1 (by omega);have X1:=hid x1;have HB1:=hid hb1;clear x1 hb1)
 rw[hN] at g1;go_loopw [4] (fun iv wr=>∃ k:Nat,k≤32∧iv=.int .i64 k∧Hid (Ext w wr)∧Hid (Bits wr g (za3 D k))) (fun iv _=>32-(intOf iv).toNat)
 case atStart=>exact⟨0,by omega,rfl,X1.out,HB1.out⟩
 case round=>
  clear HB1 X1;obtain⟨k,hk,rfl,hE,hB⟩:=hrel;by_cases hlt:k<32
  ·have d1:decide ((k:Int)<32)=true:=decide_eq_true (by omega)
   have hkl:k<(za3 D k).length:=by rw[zc6];omega
   have c0:=hB.out.cell hkl;have lg:=hB.out.lt;have fz:=hB.out.frozen k;have h2:=hB.out.flip hkl;have HB2:=hid h2.1;have HE2:=hid (h2.2.toExt hE.out (fun q hq=>by subst hq;exact g3));have HS:=hid (zib D k);clear h2 hB hE;generalize (za3 D k)[k]?.getD false=b at c0 HB2 HE2;go_wp2_with fail
   go_roundw
   case rel=>exact⟨k+1,by omega,by go_num,HE2.out,by rw[HS.out];exact HB2.out⟩
   case measure=>simp[intOf];omega
  ·obtain rfl:k=32:=by omega
   have HLen:Hid (∀ i,(divs (za3 D 32) i).length=N):=fun i=>by rw[zeo,zc6,hN]
   have HB0:Hid (Bits wr g (divs (za3 D 32) 0)):=hB;have hN5:Hid (N-32=8*s.size):=by have:=HN2.out;unfold Hid;omega
   have HDv:Hid (∀ i,divs (za3 D 32) (i+1)=if(divs (za3 D 32) i)[i]?.getD false then(powersL.map fun p=>i+32-p).foldl zbi (divs (za3 D 32) i) else divs (za3 D 32) i):=fun i=>zk4 _ i;generalize divs (za3 D 32)=dv at HLen HB0 HTop HDv;clear hB hlt HB hb1 hN HN2 hs8;have d1:decide (((32:Nat):Int)<32)=false:=by decide
   go_wp2_with (go_at_call 134;refine((HP _).out).mono ?_;rintro e w2 ⟨v2,rfl,⟨b2,rfl,hb2,lb2,hc2⟩,x2⟩;have X2:=hid (hE.out.trans x2);have HB2:=hid (HB0.out.ext x2);have hbg:b2≠g:=Nat.ne_of_gt (Nat.lt_of_lt_of_le HB0.out.lt hb2);have HC2:=hid hc2;clear x2 hc2)
   clear HB0 HP hE d1;go_loopw [6] (fun iv wr=>∃ i:Nat,i≤N-32∧iv=.int .i64 i∧Hid (Ext w wr)∧Hid (Keep (fun q=>q=g) w2 wr)∧Hid (Bits wr g (dv i))) (fun iv _=>N-32-(intOf iv).toNat)
   case atStart=>exact⟨0,by omega,rfl,X2.out,Keep.refl _ _,HB2.out⟩
   case round=>
    clear X2 HB2;obtain⟨i,hi,rfl,hE,hK,hB⟩:=hrel;by_cases hlt:i<N-32
    ·have d1:decide ((i:Int)<(N:Int)-32)=true:=decide_eq_true (by omega)
     have hil:i<(dv i).length:=by rw[HLen.out];omega
     have c0:=hB.out.cell hil;have lg:=hB.out.lt;have fz:=hB.out.frozen i;have HS:=hid (HDv.out i);cases hb:(dv i)[i]?.getD false with
     | false=>
      rw[hb] at c0 HS;rw[if_neg Bool.false_ne_true] at HS;clear hb hil HTop;go_wp2_with fail
      go_roundw
      case rel=>exact⟨i+1,by omega,by go_num,hE.out,hK.out,by rw[HS.out];exact hB.out⟩
      case measure=>simp[intOf];omega
     | true=>
      rw[hb] at c0 HS;rw[if_pos rfl] at HS;clear hb hil HTop;go_wp2_with fail
      obtain⟨fl,F0,FN,FA,FL⟩:∃ fl:Nat→List Bool,Hid (Bits wr g (fl 0))∧Hid (∀ k (h:k<powersL.length),fl (k+1)=zbi (fl k) (i+32-powersL[k]))∧Hid (fl 17=dv (i+1))∧Hid (∀ k,(fl k).length=N):=⟨fun k=>((powersL.take k).map fun p=>i+32-p).foldl zbi (dv i),hB.out,fun k h=>zjq (dv i) i k h,HS.out.symm,fun k=>(zdy _ _).trans (HLen.out i)⟩
      clear HS hB HLen HDv c0 lg fz d1;go_loopw [7] (fun jv wr3=>∃ j:Nat,j≤17∧jv=.int .i64 j∧Hid (Ext w wr3)∧Hid (Keep (fun q=>q=g) w2 wr3)∧Hid (Bits wr3 g (fl j))) (fun jv _=>17-(intOf jv).toNat)
      case atStart=>exact⟨0,by omega,rfl,hE.out,hK.out,F0.out⟩
      case round=>
       clear F0 hE hK;obtain⟨j,hj,rfl,hEj,hKj,hBj⟩:=hrel;by_cases hj17:j<17
       ·have d1:decide ((j:Int)<17)=true:=decide_eq_true (by omega)
        have d1':decide (j<17)=true:=decide_eq_true hj17;have y0:=zkL hKj.out lb2 hbg (HC2.out j hj17);have lb:=Nat.lt_of_lt_of_le lb2 hKj.out.size;have hp:=zkw j hj17;have HN:=hid (FN.out j hj17);generalize powersL[j]'hj17=p at y0 hp HN;obtain⟨t,ht⟩:∃ t,i+32-p=t:=⟨_,rfl⟩
        have hidx:(i:Int)+32-(p:Int)=(t:Int):=by omega
        have htN:t<N:=by omega
        have htl:t<(fl j).length:=by rw[FL.out];exact htN
        rw[ht] at HN;have c0:=hBj.out.cell htl;have lg:=hBj.out.lt;have fz:=hBj.out.frozen t;have HBj:=hid htl;clear ht htl;go_wp2_with fail
        refine zcr (Rel.ext) (pre:=?pre89) (z:=?z89) ?hpre89 ?hz89 (Ext.steady wr) (by kernel_rfl) (by kernel_rfl) (by kernel_rfl) (by kernel_rfl) ?_
        case hpre89=>(simp only[List.dropLast_cons_cons,List.dropLast_singleton];first | done | exact rfl)
        case hz89=>(simp only[List.getLast?_cons_cons,List.getLast?_singleton];first | done | exact rfl)
        repeat (first
         | (refine AWq.val rfl rfl rfl rfl (fun K hK=>?_);go_big_quiet_op;refine hK _ ?_;clear hK K)
         | (refine AWq.skip rfl rfl rfl ?_;simp only[Act.put,zq6,zq7,zq8]))
        refine AWq.last rfl rfl rfl (fun w5 x5=>?_);simp only[zo,Act.put,zq6,zq7,zq8];have h2:=(hBj.out.ext x5).flip HBj.out;have lg5:=Nat.lt_of_lt_of_le lg x5.size;have fz5:=(hBj.out.ext x5).frozen t;have c5:=x5.cell c0;have HB6:=hid h2.1;have HE6:=hid (h2.2.toExt (hEj.out.trans x5) (fun q hq=>by subst hq;exact g3));have HK6:=hid ((hKj.out.ext x5).trans h2.2);clear h2 c0 fz lg x5;generalize (fl j)[t]?.getD false=b at c5 HB6 HE6 HK6⊢;go_wp2_with fail
        go_roundw
        case rel=>exact⟨j+1,by omega,by go_num,HE6.out,HK6.out,by rw[HN.out];exact HB6.out⟩
        case measure=>simp[intOf];omega
       ·obtain rfl:j=17:=by omega
        have d1:decide (((17:Nat):Int)<17)=false:=by decide
        clear FN FL hj17;go_wp2_with fail
        go_roundw
        case rel=>exact⟨i+1,by omega,by go_num,hEj.out,hKj.out,by rw[←FA.out];exact hBj.out⟩
        case measure=>simp[intOf];omega
    ·obtain rfl:i=N-32:=by omega
     have d1:decide (((N-32:Nat):Int)<(N:Int)-32)=false:=decide_eq_false (by omega);rw[hN5.out] at hB;have HL:=HLen.out (8*s.size);generalize dv (8*s.size)=b at hB HTop HL;have HLb:=hid HL;clear HLen HDv hlt hK hN5 HC2 HL hbg lb2 hb2;go_wp2_with fail
     clear d1 hi;go_loopw [8,10] (fun nv jv wr3=>∃ j:Nat,j≤32∧jv=.int .i64 j∧nv=.int .i64 (topN b j)∧Hid (Ext w wr3)∧Hid (Bits wr3 g b)) (fun _ jv _=>32-(intOf jv).toNat)
     case atStart=>exact⟨0,by omega,rfl,rfl,hE.out,hB.out⟩
     case round=>
      clear hE hB;obtain⟨j,hj,rfl,rfl,hEj,hBj⟩:=hrel;by_cases hj17:j<32
      ·have d1:decide ((j:Int)<32)=true:=decide_eq_true (by omega)
       have hn1:=zjM b j;have hn2:=pow_32 j hj;have hn3:topN b j≤4294967296:=by omega
       obtain⟨t,ht⟩:∃ t,N-1-j=t:=⟨_,rfl⟩
       have hidx:(N:Int)-1-(j:Int)=(t:Int):=by omega
       have htN:t<N:=by omega
       have HN:Hid (topN b (j+1)=topN b j*2+(!(b[t]?.getD false)).toNat):=by unfold Hid;rw[topN,HLb.out,ht]
       have c0:=hBj.out.cell (t:=t) (by rw[HLb.out];exact htN);have lg:=hBj.out.lt;clear ht hn1 hn2 HTop;generalize topN b j=n at HN hn3⊢;cases hb:b[t]?.getD false with
       | false=>
        rw[hb] at c0 HN;clear hb;go_wp2_with fail
        go_roundw
        case rel=>exact⟨j+1,by omega,by go_num,by rw[HN.out];go_num,hEj.out,hBj.out⟩
        case measure=>simp[intOf];omega
       | true=>
        rw[hb] at c0 HN;clear hb;go_wp2_with fail
        go_roundw
        case rel=>exact⟨j+1,by omega,by go_num,by rw[HN.out];go_num,hEj.out,hBj.out⟩
        case measure=>simp[intOf];omega
      ·obtain rfl:j=32:=by omega
       have d1:decide (((32:Nat):Int)<32)=false:=by decide
       rw[HTop.out];clear hj17;go_wp2_with fail
       go_ret;exact⟨rfl,hEj.out⟩
theorem zjS (w:World) (s:ByteArray) (hs:s.size≤100000):Calls Tryz.prog 37 #[.string s] w (Ret (.string (zbM (zaC s.data.toList))) w):=by
 have HSum:=fun W=>hid (rsum_c W s hs);have hy:=zdC s.data.toList;generalize zaC s.data.toList=y at HSum hy⊢;go_enter Tryz.func37,Tryz.ntmps37;go_wp2_with (go_at_call 85;refine((HSum _).out).mono ?_;rintro e w1 ⟨rfl,x1⟩)
 rw[zgK,zfQ hy];go_wp2_with fail
 go_ret;exact⟨rfl,x1.alloc' _⟩
end
section
open Go.RowKit
theorem zk3 {s:ByteArray} {k:Nat} (h:k<s.size):s.data.toList.drop k=s[k]::s.data.toList.drop (k+1):=by
 have hl:k<s.data.toList.length:=by rw[Array.length_toList];exact h
 rw[List.drop_eq_getElem_cons hl];rfl
def ze4 (s:ByteArray):Value:=.tuple #[.int .i64 (num0 s.data.toList).2.1,.int .i64 (if(num0 s.data.toList).1=0 then((s.size-(num0 s.data.toList).2.2.length:Nat):Int) else 0),.int .i64 (num0 s.data.toList).1]
theorem ziX (w:World) (s:ByteArray) (hs:s.size≤1000000):Calls Tryz.prog 84 #[.string s] w (Ret (ze4 s) w):=by
 have HV:Hid (∀ e z (r:List UInt8),num0 s.data.toList=(e,z,r)→ze4 s=.tuple #[.int .i64 z,.int .i64 (if e=0 then((s.size-r.length:Nat):Int) else 0),.int .i64 e]):=fun e z r h=>by
  unfold ze4;rw[h]
 have hls:s.data.toList.length=s.size:=by rw[Array.length_toList];rfl
 have HL:=hid hls;clear hls;go_enter Tryz.func84,Tryz.ntmps84;go_wp2_with fail
 go_loopw [5,6,7] (fun nv pv iv wr=>∃ (i acc:Nat),i≤9∧iv=.int .i64 i∧nv=.int .i64 acc∧pv=.int .i64 ((128^min i 8:Nat):Int)∧acc<128^i∧i≤s.size∧Hid (Ext w wr)∧Hid (num0 s.data.toList=numF (9-i) i acc (s.data.toList.drop i))) (fun _ _ iv _=>9-(intOf iv).toNat)
 case atStart=>exact⟨0,0,by omega,rfl,rfl,rfl,by omega,by omega,Ext.refl _,rfl⟩
 case round=>
  obtain⟨i,acc,hi,rfl,rfl,rfl,hacc,his,hE,hN⟩:=hrel;by_cases h9:i<9
  ·have d9:decide ((i:Int)<9)=true:=decide_eq_true (by omega)
   have hpow:(128:Nat)^min i 8≤128^8:=Nat.pow_le_pow_right (by omega) (by omega);have hp8:(128:Nat)^8=72057594037927936:=by decide
   by_cases hlt:i<s.size
   ·have d0:decide ((s.size:Int)≤i)=false:=decide_eq_false (by omega)
    have d0':decide (s.size≤i)=false:=decide_eq_false (by omega);have hb256:s[i].toNat<256:=UInt8.toNat_lt _;obtain⟨c,hc0⟩:∃ c,s[i].toNat=c:=⟨_,rfl⟩
    have hN2:=hN.out;rw[zk3 hlt,show 9-i=(9-(i+1))+1 by omega] at hN2;rw[hc0] at hb256;have hnew:=zeM hacc c;have hmin:min i 8=i:=by omega
    rw[hmin] at hpow⊢;have h63:=zfU hnew h9;have HNew:=hid hnew;have hdr:(s.data.toList.drop (i+1)).length=s.size-(i+1):=by rw[List.length_drop,HL.out]
    by_cases hb:128≤c
    ·have d1:decide ((c:Int)<128)=false:=decide_eq_false (by omega)
     have d1':decide (c<128)=false:=decide_eq_false (by omega);rw[zcm (by rw[hc0];exact hb),hc0] at hN2;have HN2:=hid hN2;have HP:Hid ((128:Nat)^min (i+1) 8=if i<8 then 128^i*128 else 128^i):=by
      unfold Hid;by_cases h8:i<8
      ·rw[if_pos h8,show min (i+1) 8=i+1 by omega,Nat.pow_succ]
      ·rw[if_neg h8,show min (i+1) 8=i by omega]
     clear hN hN2 hdr hnew HV hmin hacc;have hmul:(c%128*128^i:Nat)≤127*72057594037927936:=Nat.mul_le_mul (by omega) (by omega);have hpow7:i<8→128^i≤562949953421312:=fun h=>Nat.le_trans (Nat.pow_le_pow_right (by omega) (show i≤7 by omega)) (by decide);generalize 128^i=pw at hpow HP HNew HN2 h63 hmul hpow7⊢;have hc:((c:Int)%128*(pw:Int))=((c%128*pw:Nat):Int):=by simp
     generalize c%128*pw=m at hc HNew HN2 h63 hmul⊢;clear hb;by_cases h8:i<8
     ·have d8:decide ((i:Int)<8)=true:=decide_eq_true (by omega)
      have d8':decide (i<8)=true:=decide_eq_true h8;have HP:=HP.out;rw[if_pos h8] at HP;have HP2:=hid HP;clear HP h8;have hpw:=hpow7 (of_decide_eq_true d8');clear hpow7;go_wp2_with fail
      go_roundw
      case rel=>exact⟨i+1,acc+m,by omega,by go_num,by go_num,by rw[HP2.out];go_num,HNew.out,by omega,hE.out,HN2.out⟩
      case measure=>simp[intOf];omega
     ·have d8:decide ((i:Int)<8)=false:=decide_eq_false (by omega)
      have d8':decide (i<8)=false:=decide_eq_false h8;have HP:=HP.out;rw[if_neg h8] at HP;have HP2:=hid HP;clear HP h8 hpow7;go_wp2_with fail
      go_roundw
      case rel=>exact⟨i+1,acc+m,by omega,by go_num,by go_num,by rw[HP2.out],HNew.out,by omega,hE.out,HN2.out⟩
      case measure=>simp[intOf];omega
    ·have d1:decide ((c:Int)<128)=true:=decide_eq_true (by omega)
     have d1':decide (c<128)=true:=decide_eq_true (by omega);have hmul:(c%128*128^i:Nat)≤127*72057594037927936:=Nat.mul_le_mul (by omega) (by omega);by_cases hz:c=0∧0<i
     ·rw[zdn (by rw[hc0];exact hb) (by rw[hc0];exact hz)] at hN2
      have HVal:=hid (HV.out _ _ _ hN2);have dz:((c:Int)==0)=true:=by simp;omega
      have di:decide ((0:Int)<i)=true:=decide_eq_true (by omega);have di':decide (0<i)=true:=decide_eq_true hz.2;clear hN hN2 hdr hnew HV hmin hacc hb hz;generalize 128^i=pw at hpow HNew h63 hmul⊢;have hc:((c:Int)%128*(pw:Int))=((c%128*pw:Nat):Int):=by simp
      generalize c%128*pw=m at hc HNew h63 hmul⊢;go_wp2_with fail
      go_ret3
      exact⟨by rw[HVal.out];rfl,hE.out⟩
     ·rw[zcQ (by rw[hc0];exact hb) (by rw[hc0];exact hz),hc0] at hN2
      have hv:=HV.out _ _ _ hN2;rw[if_pos rfl,hdr,show s.size-(s.size-(i+1))=i+1 by omega,show((i+1:Nat):Int)=(i:Int)+1 by omega] at hv;have dzi:((c:Int)==0)=false∨decide (0<i)=false:=by
       by_cases h3:c=0
       ·exact .inr (decide_eq_false fun h4=>hz ⟨h3,h4⟩)
       ·exact .inl (by simp;omega)
      clear hN hN2 hdr hnew HV hmin hacc hb hz;generalize 128^i=pw at hpow HNew h63 hmul hv⊢;have hc:((c:Int)%128*(pw:Int))=((c%128*pw:Nat):Int):=by simp
      generalize c%128*pw=m at hc HNew h63 hmul hv⊢;rw[show((acc+m:Nat):Int)=(acc:Int)+(m:Int) by omega] at hv;have HVal:=hid hv;clear hv;cases dz:((c:Int)==0) with
      | false=>
       go_wp2_with fail
       go_ret3
       exact⟨by rw[HVal.out];rfl,hE.out⟩
      | true=>
       have di:decide (0<i)=false:=by
        rcases dzi with h3 | h3
        ·rw[dz] at h3;cases h3
        ·exact h3
       have di':decide ((0:Int)<i)=false:=decide_eq_false (by have:=of_decide_eq_false di;omega);clear dzi;go_wp2_with fail
       go_ret3
       exact⟨by rw[HVal.out];rfl,hE.out⟩
   ·obtain rfl:i=s.size:=by omega
    have hN2:=hN.out;rw[List.drop_of_length_le (by rw[HL.out];exact Nat.le_refl _),show 9-s.size=(9-(s.size+1))+1 by omega] at hN2;have HVal:=hid (HV.out _ _ _ hN2);clear hN hN2 HV hacc hpow hp8 hlt;go_wp2_with fail
    go_ret3
    exact⟨by rw[HVal.out];rfl,hE.out⟩
  ·obtain rfl:i=9:=by omega
   have HVal:=hid (HV.out _ _ _ hN.out);clear hN HV hacc h9;have d9:decide (((9:Nat):Int)<9)=false:=by decide
   go_wp2_with fail
   go_ret3
   exact⟨by rw[HVal.out];rfl,hE.out⟩
def zd4 (s:ByteArray):Value:=.tuple #[.string ⟨(zal s.data.toList).2.1.toArray⟩,.int .i64 (if(zal s.data.toList).1=0 then((s.size-(zal s.data.toList).2.2.length:Nat):Int) else 0),.int .i64 (zal s.data.toList).1]
theorem zkm (w:World) (s:ByteArray) (hs:s.size≤1000000):Calls Tryz.prog 36 #[.string s] w (Ret (zd4 s) w):=by
 have HF:=fun W=>hid (ziX W s hs);have hV:ze4 s=.tuple #[.int .i64 (num0 s.data.toList).2.1,.int .i64 (if(num0 s.data.toList).1=0 then((s.size-(num0 s.data.toList).2.2.length:Nat):Int) else 0),.int .i64 (num0 s.data.toList).1]:=rfl;have hls:s.data.toList.length=s.size:=by rw[Array.length_toList];rfl
 obtain⟨k,hk1,hk2⟩:=zeE 9 0 0 s.data.toList;have hk2:(num0 s.data.toList).2.2=s.data.toList.drop k:=hk2;have hn:=zhc 9 0 0 s.data.toList rfl (by omega);have hn:(num0 s.data.toList).2.1<9223372036854775808:=hn;have HV:Hid (∀ e (t r:List UInt8),zal s.data.toList=(e,t,r)→zd4 s=.tuple #[.string ⟨t.toArray⟩,.int .i64 (if e=0 then((s.size-r.length:Nat):Int) else 0),.int .i64 e]):=fun e t r h=>by
  unfold zd4;rw[h]
 have ht:zal s.data.toList=if(num0 s.data.toList).1=0 then(if(num0 s.data.toList).2.2.length<(num0 s.data.toList).2.1 then(5,[],(num0 s.data.toList).2.2) else(0,(num0 s.data.toList).2.2.take (num0 s.data.toList).2.1,(num0 s.data.toList).2.2.drop (num0 s.data.toList).2.1)) else((num0 s.data.toList).1,[],(num0 s.data.toList).2.2):=rfl;generalize num0 s.data.toList=R at hV hk2 hn ht;obtain⟨e,n,r⟩:=R;dsimp only at hV hk2 hn ht;subst hk2;rw[hls] at hk1;rw[List.length_drop,hls,show s.size-(s.size-k)=k by omega] at hV;rw[List.length_drop,hls] at ht;rw[hV] at HF;clear hV;by_cases he:e=0
 ·subst he
  rw[if_pos rfl] at HF ht;by_cases hb:s.size-k<n
  ·rw[if_pos hb] at ht
   have HVal:=hid (HV.out _ _ _ ht);have d0:decide ((s.size:Int)-k<n)=true:=decide_eq_true (by omega);clear ht HV hb;go_enter Tryz.func36,Tryz.ntmps36;go_wp2_with (go_at_call 84;refine((HF _).out).mono ?_;rintro e w1 ⟨rfl,x1⟩)
   go_ret3
   exact⟨by rw[HVal.out];rfl,x1⟩
  ·rw[if_neg hb] at ht
   have hv:=HV.out _ _ _ ht;have hx:(⟨((s.data.toList.drop k).take n).toArray⟩:ByteArray)=s.extract k (k+n):=by
    apply ByteArray.ext;apply Array.ext';rw[ByteArray.data_extract,Array.toList_extract,List.extract_eq_take_drop];simp
   rw[if_pos rfl,hx,List.length_drop,List.length_drop,hls,show s.size-(s.size-k-n)=k+n by omega] at hv;obtain⟨m,hm⟩:∃ m,k+n=m:=⟨_,rfl⟩
   have hidx:(k:Int)+(n:Int)=(m:Int):=by omega
   have hkm:k≤m:=by omega
   rw[hm] at hv;have HVal:=hid hv;have d0:decide ((s.size:Int)-k<n)=false:=decide_eq_false (by omega);have hkn:m≤s.size:=by omega
   clear ht HV hb hv hx hm;go_enter Tryz.func36,Tryz.ntmps36;go_wp2_with (go_at_call 84;refine((HF _).out).mono ?_;rintro e w1 ⟨rfl,x1⟩)
   go_ret3
   exact⟨by rw[HVal.out];rfl,x1⟩
 ·rw[if_neg he] at HF ht
  have hv:=HV.out _ _ _ ht;rw[if_neg he] at hv;have HVal:=hid hv;have d0:(e != 0)=true:=by simp[he]
  clear ht HV he hv;go_enter Tryz.func36,Tryz.ntmps36;go_wp2_with (go_at_call 84;refine((HF _).out).mono ?_;rintro e w1 ⟨rfl,x1⟩)
  go_ret3
  exact⟨by rw[HVal.out];rfl,x1⟩
theorem zhP (w:World) (s:ByteArray) (hs:s.size≤100000):Calls Tryz.prog 22 #[.string s] w (Ret (.string ⟨(zaL s.data.toList).toArray⟩) w):=by
 have HT:=fun W=>hid (zbj W s hs);have H4:=fun W=>hid (zjS W s hs);have hV:(zG s++zbM (zaC s.data.toList))=⟨(zaL s.data.toList).toArray⟩:=by
  apply ByteArray.ext;apply Array.ext';have hl:s.data.toList.length=s.size:=by rw[Array.length_toList];rfl
  unfold zaL zG lebB zbM crcF;rw[hl];simp
 have h9:(zG s).size≤100009:=by
  unfold zG;rw[ByteArray.size_append];have:=zdV (n:=s.size) (by omega);omega
 have h4:(zbM (zaC s.data.toList)).size≤4:=Nat.le_refl 4;have HV:=hid hV;generalize zG s=t at HT h9 HV;generalize zbM (zaC s.data.toList)=f at H4 h4 HV;clear hV;go_enter Tryz.func22,Tryz.ntmps22;go_wp2_with fail
 refine((HT _).out).mono ?_;rintro en w1 ⟨rfl,x1⟩;go_wp2_with fail
 refine((H4 _).out).mono ?_;rintro en w2 ⟨rfl,x2⟩;have HX:=hid (x1.trans x2);clear x1 x2;go_wp2_with fail
 go_ret;exact⟨by rw[←HV.out];rfl,HX.out⟩
theorem ziW (w:World) (s:ByteArray) (hs:s.size≤100000):Calls Tryz.prog 11 #[.string s] w (Ret (zc9 s) w):=by
 have H2:=fun W=>hid (zkm W s (by omega));have hV:zd4 s=.tuple #[.string ⟨(zal s.data.toList).2.1.toArray⟩,.int .i64 (if(zal s.data.toList).1=0 then((s.size-(zal s.data.toList).2.2.length:Nat):Int) else 0),.int .i64 (zal s.data.toList).1]:=rfl;have hF:zc9 s=.tuple #[.string ⟨(zas s.data.toList).1.toArray⟩,.int .i64 (zas s.data.toList).2.1,.int .i64 (zas s.data.toList).2.2]:=rfl
 have h0:zas s.data.toList=if(zal s.data.toList).1≠0 then([],0,(zal s.data.toList).1) else if chk0 (zal s.data.toList).2.1 (zal s.data.toList).2.2≠0 then([],0,chk0 (zal s.data.toList).2.1 (zal s.data.toList).2.2) else((zal s.data.toList).2.1,s.data.toList.length-(zal s.data.toList).2.2.length+4,0):=rfl;have hls:s.data.toList.length=s.size:=by rw[Array.length_toList];rfl
 have hlen:=zew s.data.toList;have hdrop:=zfp s.data.toList;generalize zal s.data.toList=R at hV h0 hlen hdrop;obtain⟨e,t,r⟩:=R;dsimp only at hV h0 hlen hdrop;rw[hls] at hlen hdrop h0;rw[hV] at H2;clear hV;by_cases he:e=0
 ·subst he
  rw[if_pos rfl] at H2;rw[if_neg (by simp)] at h0;obtain⟨n,hn⟩:∃ n,s.size-r.length=n:=⟨_,rfl⟩
  have hnr:n+r.length=s.size:=by omega
  rw[hn] at hdrop H2 h0;obtain⟨T,hT⟩:∃ T:ByteArray,(⟨t.toArray⟩:ByteArray)=T:=⟨_,rfl⟩
  have hTl:T.data.toList=t:=by rw[←hT]
  have hTs:T.size≤s.size:=by
   rw[←hT]
   show t.toArray.size≤_
   rw[List.size_toArray];omega
  rw[hT] at H2;have H4:=fun W=>hid (zjS W T (by omega));rw[hTl] at H4;by_cases h4:r.length<4
  ·have hc:chk0 t r=5:=if_pos h4
   rw[hc,if_pos (by decide)] at h0;rw[h0] at hF;have HF:=hid hF;have d0:decide ((s.size:Int)-n<4)=true:=decide_eq_true (by omega);clear hF h0 hc hn hlen hdrop hls H4 hT hTl;go_enter Tryz.func11,Tryz.ntmps11;go_wp2_with (go_at_call 36;refine((H2 _).out).mono ?_;rintro e w1 ⟨rfl,x1⟩)
   go_ret3
   exact⟨by rw[HF.out];rfl,x1⟩
  ·have d0:decide ((s.size:Int)-n<4)=false:=decide_eq_false (by omega)
   obtain⟨m,hm⟩:∃ m,n+4=m:=⟨_,rfl⟩
   have hidx:(n:Int)+4=(m:Int):=by omega
   have hnm:n≤m:=by omega
   have hms:m≤s.size:=by omega
   have hx:(s.extract n m).data.toList=r.take 4:=by
    rw[ByteArray.data_extract,Array.toList_extract,List.extract_eq_take_drop,←hdrop,show m-n=4 by omega]
   have hfour:(zbM (zaC t)).data.toList=crcF t:=rfl;by_cases heq:r.take 4=crcF t
   ·have hc:chk0 t r=0:=by unfold chk0;rw[if_neg h4,if_pos heq]
    rw[hc,if_neg (by simp)] at h0;rw[h0] at hF;dsimp only at hF;rw[hT,hm] at hF;have HF:=hid hF;have d1:((s.extract n m).toList==(zbM (zaC t)).toList)=true:=by rw[Lib.toList_data,Lib.toList_data,hx,hfour,heq];simp
    generalize zbM (zaC t)=f4 at H4 d1;clear hF h0 hc hn hlen hdrop hls hT hTl hx hfour heq h4 hm;go_enter Tryz.func11,Tryz.ntmps11;go_wp2_with (go_at_call 36;refine((H2 _).out).mono ?_;rintro e w1 ⟨rfl,x1⟩;have X1:=hid x1;clear x1)
    refine zd (by kernel_rfl) (by kernel_rfl) (by kernel_rfl) ?_
    repeat (first
     | (refine AWq.val rfl rfl rfl rfl (fun K hK=>?_);go_big_quiet_op;refine hK _ ?_;clear hK K)
     | (refine AWq.skip rfl rfl rfl ?_;simp only[Act.put,zq6,zq7,zq8])
     | (refine AWq.call rfl Tryz.func37 (by kernel_rfl) (by kernel_rfl) rfl rfl rfl ?_;apply Exists.intro;refine And.intro (fun wc hc=>?_) ?_;(· (simp only[zm,zt,↓reduceIte,Nat.reduceEqDiff,zq1,zq2,zq3,zq4,zq5];with_reducible exact(H4 _).out));simp only[Act.put,zq6,zq7,zq8]))
    refine AWq.done rfl rfl rfl (fun w2 x2=>?_);simp only[zo,Act.put,zq6,zq7,zq8];go_wp2_with fail
    go_ret3
    exact⟨by rw[HF.out];rfl,X1.out.trans x2⟩
   ·have hc:chk0 t r=7:=by unfold chk0;rw[if_neg h4,if_neg heq]
    rw[hc,if_pos (by decide)] at h0;rw[h0] at hF;have HF:=hid hF;have d1:((s.extract n m).toList==(zbM (zaC t)).toList)=false:=by rw[Lib.toList_data,Lib.toList_data,hx,hfour];exact beq_eq_false_iff_ne.2 heq
    generalize zbM (zaC t)=f4 at H4 d1;clear hF h0 hc hn hlen hdrop hls hT hTl hx hfour heq h4 hm;go_enter Tryz.func11,Tryz.ntmps11;go_wp2_with (go_at_call 36;refine((H2 _).out).mono ?_;rintro e w1 ⟨rfl,x1⟩;have X1:=hid x1;clear x1)
    refine zd (by kernel_rfl) (by kernel_rfl) (by kernel_rfl) ?_
    repeat (first
     | (refine AWq.val rfl rfl rfl rfl (fun K hK=>?_);go_big_quiet_op;refine hK _ ?_;clear hK K)
     | (refine AWq.skip rfl rfl rfl ?_;simp only[Act.put,zq6,zq7,zq8])
     | (refine AWq.call rfl Tryz.func37 (by kernel_rfl) (by kernel_rfl) rfl rfl rfl ?_;apply Exists.intro;refine And.intro (fun wc hc=>?_) ?_;(· (simp only[zm,zt,↓reduceIte,Nat.reduceEqDiff,zq1,zq2,zq3,zq4,zq5];with_reducible exact(H4 _).out));simp only[Act.put,zq6,zq7,zq8]))
    refine AWq.done rfl rfl rfl (fun w2 x2=>?_);simp only[zo,Act.put,zq6,zq7,zq8];go_wp2_with fail
    go_ret3
    exact⟨by rw[HF.out];rfl,X1.out.trans x2⟩
 ·rw[if_neg he] at H2
  rw[if_pos he] at h0;rw[h0] at hF;have HF:=hid hF;have d0:(e != 0)=true:=by simp[he]
  clear hF h0 he hlen hdrop hls;go_enter Tryz.func11,Tryz.ntmps11;go_wp2_with (go_at_call 36;refine((H2 _).out).mono ?_;rintro e w1 ⟨rfl,x1⟩)
  go_ret3
  exact⟨by rw[HF.out];rfl,x1⟩
end
end Go.Proofs.YtofjpdgojoppbaaGreatDoor
