/-
  Of the claim's proof: CrA, CrB, MgA, FrE, FrF, CrC, CrD.
-/
import Derived.Test.YtofjpdgojoppbaaGreatDoorProg
import Derived.OwnWalk
import Derived.BigQuiet
import Derived.Test.YtofjpdgojoppbaaGreatDoorS01
import Derived.Test.YtofjpdgojoppbaaGreatDoorS05
set_option maxRecDepth 100000
set_option maxHeartbeats 16000000
set_option linter.unusedVariables false
set_option linter.unusedSimpArgs false
namespace Go.Proofs.YtofjpdgojoppbaaGreatDoor
section
def crcP:Nat:=2197175160
def zat (x:Nat):Nat:=(x >>> 1)^^^(if x%2=1 then crcP else 0)
def crcN:Nat→Nat→Nat
 | 0,x=>x
 | k+1,x=>crcN k (zat x)
def zde (x:Nat) (b:Nat):Nat:=crcN 8 (x^^^b)
def zbI (l:List UInt8):Nat:=l.foldl (fun x c=>zde x c.toNat) 4294967295
def zaF (l:List UInt8):Nat:=zbI l^^^4294967295
theorem zgt:∀ (k x:Nat),crcN (k+1) x=zat (crcN k x)
 | 0,_=>rfl
 | k+1,x=>zgt k (zat x)
theorem zfH {x:Nat} (h:x<4294967296):zat x<4294967296:=by
 unfold zat;refine Nat.xor_lt_two_pow (n:=32) ?_ ?_
 ·rw[Nat.shiftRight_eq_div_pow];omega
 ·split <;> decide
theorem zg5:∀ (k:Nat) {x:Nat},x<4294967296→crcN k x<4294967296
 | 0,_,h=>h
 | k+1,_,h=>zg5 k (zfH h)
theorem zjd {x b:Nat} (h:x<4294967296) (hb:b<256):zde x b<4294967296:=
 zg5 8 (Nat.xor_lt_two_pow (n:=32) h (by omega))
theorem zgs:∀ (l:List UInt8) {x:Nat},x<4294967296→l.foldl (fun x c=>zde x c.toNat) x<4294967296
 | [],_,h=>h
 | c::l,_,h=>zgs l (zjd h c.toNat_lt)
theorem zem (l:List UInt8):zbI l<4294967296:=zgs l (by omega)
theorem zdd (l:List UInt8):zaF l<4294967296:=Nat.xor_lt_two_pow (n:=32) (zem l) (by decide)
theorem zh8 (l:List UInt8) (c:UInt8):zbI (l++[c])=zde (zbI l) c.toNat:=by simp[zbI]
theorem odd_bit (x:Nat):decide (x%2=1)=x.testBit 0:=by simp[Nat.testBit_zero]
theorem zcp (x j:Nat):(zat x).testBit j=(x.testBit (j+1) ^^ (x.testBit 0&&crcP.testBit j)):=by
 unfold zat;rw[Nat.testBit_xor,Nat.testBit_shiftRight,Nat.add_comm 1 j]
 congr 1
 have h:=odd_bit x;by_cases hx:x%2=1
 ·rw[if_pos hx,←h,decide_eq_true hx,Bool.true_and]
 ·rw[if_neg hx,←h,decide_eq_false hx,Bool.false_and,Nat.zero_testBit]
theorem zh6 (a b:Nat):zat (a^^^b)=zat a^^^zat b:=by
 apply Nat.eq_of_testBit_eq;intro j;rw[Nat.testBit_xor,zcp,zcp,zcp,Nat.testBit_xor,Nat.testBit_xor];cases a.testBit (j+1) <;> cases b.testBit (j+1) <;> cases a.testBit 0 <;> cases b.testBit 0 <;> cases crcP.testBit j <;> rfl
def zbH (x:Nat) (l:List Bool):Nat:=l.foldl (fun x d=>zat (x^^^d.toNat)) x
def zaE (n:Nat):List Bool:=(List.range 8).map n.testBit
theorem zg4 (c:Nat):zat (2*c)=c:=by
 unfold zat;rw[if_neg (by omega),Nat.xor_zero,Nat.shiftRight_eq_div_pow];omega
theorem zjW (b:Nat):b=(b.testBit 0).toNat^^^(2*(b/2)):=by
 apply Nat.eq_of_testBit_eq;intro j;rw[Nat.testBit_xor];cases j with
 | zero=>
  have h:(2*(b/2)).testBit 0=false:=by simp[Nat.testBit_zero]
  rw[h,Bool.xor_false];cases e:b.testBit 0 <;> rfl
 | succ j=>
  have h:(b.testBit 0).toNat.testBit (j+1)=false:=by
   cases b.testBit 0
   ·exact Nat.zero_testBit _
   ·exact Nat.testBit_lt_two_pow (show 1<2^(j+1) by have:=Nat.one_le_two_pow (n:=j);rw[Nat.pow_succ];omega)
  rw[h,Bool.false_xor,Nat.testBit_succ,Nat.testBit_succ]
  congr 1
  omega
theorem zh9:∀ (k x b:Nat),b<2^k→crcN k (x^^^b)=zbH x ((List.range k).map b.testBit)
 | 0,x,b,h=>by
  have:b=0:=by simpa using h
  subst this;simp[crcN,zbH]
 | k+1,x,b,h=>by
  show crcN k (zat (x^^^b))=_
  rw[show x^^^b=(x^^^(b.testBit 0).toNat)^^^(2*(b/2)) by rw[Nat.xor_assoc,←zjW],zh6,zg4,zh9 k _ (b/2) (by rw[Nat.pow_succ] at h;omega),List.range_succ_eq_map,List.map_cons,List.map_map];unfold zbH;rw[List.foldl_cons]
  congr 1
  apply List.map_congr_left;intro j _;simp[Nat.testBit_succ]
theorem crcByte_ser (x b:Nat) (h:b<256):zde x b=zbH x (zaE b):=zh9 8 x b h
theorem zfI (x:Nat) (l r:List Bool):zbH x (l++r)=zbH (zbH x l) r:=by simp[zbH,List.foldl_append]
def zar (l:List UInt8):List Bool:=l.flatMap fun c=>zaE c.toNat
theorem zby (l:List UInt8):(zar l).length=8*l.length:=by
 unfold zar
 induction l with
 | nil=>rfl
 | cons c l ih=>rw[List.flatMap_cons,List.length_append,ih,List.length_cons];simp[zaE];omega
theorem zfR (l:List UInt8) (c:UInt8):zar (l++[c])=zar l++zaE c.toNat:=by simp[zar]
theorem zjc (l:List UInt8):zbI l=zbH 4294967295 (zar l):=by
 unfold zbI zar;generalize 4294967295=x
 induction l generalizing x with
 | nil=>rfl
 | cons c l ih=>rw[List.foldl_cons,ih,List.flatMap_cons,zfI,crcByte_ser _ _ c.toNat_lt]
def za1 (b:List Bool) (i:Nat):List Bool:=b.set i (!(b[i]?.getD false))
def powersL:List Nat:=[28,27,26,25,23,22,20,19,18,14,13,11,10,9,8,6,0]
def zeM (b:List Bool) (i:Nat):List Bool:=if b[i]?.getD false then(powersL.map fun p=>i+32-p).foldl za1 b else b
def divs (b:List Bool):Nat→List Bool
 | 0=>b
 | i+1=>zeM (divs b i) i
theorem zfy (b:List Bool) (i:Nat):(za1 b i).length=b.length:=by simp[za1]
theorem zda:∀ (l:List Nat) (b:List Bool),(l.foldl za1 b).length=b.length
 | [],_=>rfl
 | i::l,b=>by rw[List.foldl_cons,zda l,zfy]
theorem zh4 (b:List Bool) (i:Nat):(zeM b i).length=b.length:=by
 unfold zeM
 split
 ·exact zda _ _
 ·rfl
theorem zdY (b:List Bool):∀ i,(divs b i).length=b.length
 | 0=>rfl
 | i+1=>by rw[divs,zh4,zdY b i]
theorem zi5 (b:List Bool) (i t:Nat) (h:t<b.length):(za1 b i)[t]?.getD false=(b[t]?.getD false ^^ decide (t=i)):=by
 unfold za1;rw[List.getElem?_set];by_cases e:i=t
 ·subst e
  rw[if_pos rfl,if_pos h];simp
 ·rw[if_neg e]
  have:¬ t=i:=fun h=>e h.symm;simp[this]
theorem zei:∀ (l:List Nat) (b:List Bool) (t:Nat),l.Nodup→t<b.length→(l.foldl za1 b)[t]?.getD false=(b[t]?.getD false ^^ decide (t∈l))
 | [],b,t,_,_=>by simp
 | i::l,b,t,hn,h=>by
  rw[List.nodup_cons] at hn;rw[List.foldl_cons,zei l _ t hn.2 (by rw[zfy];exact h),zi5 _ _ _ h,Bool.xor_assoc]
  congr 1
  by_cases e:t=i
  ·subst e
   simp[hn.1]
  ·simp[e]
theorem ziL:∀ j,j<32→decide (∃ p∈powersL,j+1=32-p)=crcP.testBit j:=by decide
theorem zgQ (i:Nat):(powersL.map fun p=>i+32-p).Nodup:=by
 rw[List.Nodup,List.pairwise_map];have h:powersL.Pairwise fun a b=>b<a:=by decide
 have h2:∀ p∈powersL,p≤28:=by decide
 refine List.Pairwise.imp_of_mem ?_ h;intro a b ha hb hab e;have:=h2 a ha;have:=h2 b hb;omega
theorem zgr:∀ (l:List Bool) {x:Nat},x<4294967296→zbH x l<4294967296
 | [],_,h=>h
 | d::l,_,h=>zgr l (zfH (Nat.xor_lt_two_pow (n:=32) h (by cases d <;> decide)))
theorem zh3 (D:List Bool) (b:List Bool) (hb:b.length=D.length) (h0:∀ t,t<D.length→b[t]?.getD false=(D[t]?.getD false ^^ (4294967295:Nat).testBit t)):∀ i,i+32≤D.length → ∀ t,i≤t→t<D.length→(divs b i)[t]?.getD false=(D[t]?.getD false ^^ (zbH 4294967295 (D.take i)).testBit (t-i))
 | 0,_,t,_,ht=>by
  rw[divs,h0 t ht];rfl
 | i+1,hi,t,hit,ht=>by
  have ih:=zh3 D b hb h0 i (by omega);have hlen:=zdY b i;have hid:=ih i (Nat.le_refl _) (by omega);have hit':=ih t (by omega) ht;have hlt:=zgr (D.take i) (show(4294967295:Nat)<4294967296 by omega);have hD:zbH 4294967295 (D.take (i+1))=zat (zbH 4294967295 (D.take i)^^^(D[i]?.getD false).toNat):=by
   rw[List.take_succ_eq_append_getElem (by omega),zfI,List.getElem?_eq_getElem (by omega)];rfl
  have hdi:∀ j,0<j→((D[i]?.getD false).toNat).testBit j=false:=by
   intro j hj;cases D[i]?.getD false
   ·exact Nat.zero_testBit _
   ·exact Nat.testBit_lt_two_pow (show 1<2^j by have:=Nat.pow_le_pow_right (n:=2) (by omega) hj;omega)
  have hd0:((D[i]?.getD false).toNat).testBit 0=D[i]?.getD false:=by cases D[i]?.getD false <;> rfl
  rw[hD,zcp,Nat.testBit_xor,Nat.testBit_xor,hdi _ (by omega),Bool.xor_false,hd0,show t-(i+1)+1=t-i by omega];rw[Nat.sub_self] at hid;rw[divs];unfold zeM;rw[hid,Bool.xor_comm (D[i]?.getD false)];generalize zbH 4294967295 (D.take i)=R at *;by_cases ho:(R.testBit 0 ^^ D[i]?.getD false)=true
  ·rw[if_pos ho,zei _ _ _ (zgQ i) (by omega),hit',ho,Bool.true_and]
   rw[Bool.xor_assoc]
   congr 2
   by_cases hj:t-(i+1)<32
   ·rw[←ziL _ hj]
    have hp:∀ p∈powersL,p≤28:=by decide
    apply Bool.eq_iff_iff.2;rw[decide_eq_true_eq,decide_eq_true_eq,List.mem_map]
    constructor
    ·rintro⟨p,h1,h2⟩
     have:=hp p h1;exact⟨p,h1,by omega⟩
    ·rintro⟨p,h1,h2⟩
     have:=hp p h1;exact⟨p,h1,by omega⟩
   ·rw[Nat.testBit_lt_two_pow (show crcP<2^(t-(i+1)) from Nat.lt_of_lt_of_le (show crcP<2^32 by decide) (Nat.pow_le_pow_right (by omega) (by omega)))]
    rw[decide_eq_false_iff_not,List.mem_map];rintro⟨p,h1,h2⟩;omega
  ·rw[if_neg ho,hit']
   rw[Bool.not_eq_true] at ho;rw[ho,Bool.false_and,Bool.xor_false]
theorem zlh (y:Nat) (m:Nat):y >>> m=2*(y >>> (m+1))+(y.testBit m).toNat:=by
 rw[Nat.shiftRight_eq_div_pow,Nat.shiftRight_eq_div_pow,Nat.pow_succ,←Nat.div_div_eq_div_mul,Nat.testBit,Nat.shiftRight_eq_div_pow,Nat.and_comm,Nat.and_one_is_mod];have h:=Nat.div_add_mod (y/2^m) 2;have h2:=Nat.mod_two_eq_zero_or_one (y/2^m);rcases h2 with e | e
 ·rw[e] at h⊢;simp;omega
 ·rw[e] at h⊢;simp;omega
theorem zhA (t:Nat):(4294967295:Nat).testBit t=decide (t<32):=Nat.testBit_two_pow_sub_one 32 t
def zaO (D:List Bool) (k:Nat):List Bool:=(List.range k).foldl za1 D
theorem zhQ (D:List Bool) (k:Nat):zaO D (k+1)=za1 (zaO D k) k:=by
 unfold zaO;rw[List.range_succ,List.foldl_append];rfl
theorem zcP (D:List Bool) (k:Nat):(zaO D k).length=D.length:=zda _ _
theorem zi6 (D:List Bool) (t:Nat) (h:t<D.length):(zaO D 32)[t]?.getD false=(D[t]?.getD false ^^ (4294967295:Nat).testBit t):=by
 unfold zaO;rw[zei _ _ _ List.nodup_range h,zhA];simp
def zcr (l:List UInt8):List Bool:=zar l++List.replicate 32 false
theorem zdg (l:List UInt8):(zcr l).length=8*l.length+32:=by simp[zcr,zby]
def topN (b:List Bool):Nat→Nat
 | 0=>0
 | k+1=>topN b k*2+(!(b[b.length-1-k]?.getD false)).toNat
theorem zhh (l:List UInt8):∀ k,k≤32→topN (divs (zaO (zcr l) 32) (8*l.length)) k=zaF l >>> (32-k)
 | 0,_=>by
  rw[Nat.shiftRight_eq_div_pow,Nat.div_eq_of_lt (zdd l)];rfl
 | k+1,hk=>by
  have hlen:(divs (zaO (zcr l) 32) (8*l.length)).length=8*l.length+32:=by rw[zdY,zcP,zdg]
  rw[topN,zhh l k (by omega),zlh _ (32-(k+1)),show 32-(k+1)+1=32-k by omega,Nat.mul_comm,hlen]
  congr 2
  rw[zh3 (zcr l) (zaO (zcr l) 32) (zcP _ _) (fun t ht=>zi6 _ t ht) (8*l.length) (by rw[zdg];omega) _ (by omega) (by rw[zdg];omega)];have h1:(zcr l)[8*l.length+32-1-k]?.getD false=false:=by
   unfold zcr;rw[List.getElem?_append_right (by rw[zby];omega),List.getElem?_replicate]
   split <;> rfl
  have h2:(zcr l).take (8*l.length)=zar l:=by
   unfold zcr;rw[←zby,List.take_left'];rfl
  rw[h1,h2,Bool.false_xor,←zjc];unfold zaF;rw[Nat.testBit_xor,zhA,show 8*l.length+32-1-k-8*l.length=32-(k+1) by omega,decide_eq_true (show 32-(k+1)<32 by omega),Bool.xor_true]
theorem topN_32 (l:List UInt8):topN (divs (zaO (zcr l) 32) (8*l.length)) 32=zaF l:=by
 rw[zhh l 32 (Nat.le_refl _)];rfl
def zl9 (n:Nat):List UInt8:=[UInt8.ofNat n,UInt8.ofNat (n/256),UInt8.ofNat (n/65536),UInt8.ofNat (n/16777216)]
def crcF (l:List UInt8):List UInt8:=zl9 (zaF l)
theorem zdZ (l:List UInt8):(crcF l).length=4:=rfl
end
section
open Go.RowKit
theorem zfP {a b:Nat} (ha:a<4294967296) (hb:b<4294967296):bits .xor .u32 (a:Int) (b:Int)=((a^^^b:Nat):Int):=by
 have h:=Nat.xor_lt_two_pow (n:=32) ha hb;unfold bits;simp;have h32:(2:Nat)^IntKind.u32.bits=4294967296:=rfl;rw[h32,Nat.mod_eq_of_lt ha,Nat.mod_eq_of_lt hb]
 show(((a^^^b:Nat):Int)).emod 4294967296=_
 exact Int.emod_eq_of_lt (by omega) (by omega)
theorem and_u32 {a:Nat} (ha:a<4294967296):bits .and .u32 (a:Int) 1=((a%2:Nat):Int):=by
 unfold bits;simp;have h32:(2:Nat)^IntKind.u32.bits=4294967296:=rfl;rw[h32,Nat.mod_eq_of_lt ha];rw[Nat.and_one_is_mod]
 show(((a%2:Nat):Int)).emod 4294967296=_
 exact Int.emod_eq_of_lt (by omega) (by omega)
theorem zh7 {x:Nat} (h:x%2=1):zat x=(x/2)^^^crcP:=by unfold zat;rw[if_pos h];rfl
theorem zjb {x:Nat} (h:¬ x%2=1):zat x=x/2:=by unfold zat;rw[if_neg h,Nat.xor_zero];rfl
def Reg (w:World) (q:Nat) (x:Nat):Ending→World→Prop:=fun en w'=>en=.returned (.tuple #[])∧Blk w' q 220 #[.int .u32 x]∧Keep (fun g=>g=q) w w'
theorem zgK {w:World} {q:Nat} {v u:Value} {t:TypeId} (h:Blk w q t #[v]):Blk (w.setCell ⟨q,0,none⟩ u) q t #[u]∧Keep (fun g=>g=q) w (w.setCell ⟨q,0,none⟩ u):=
 ⟨h.set 0 u,(Keep.refl (fun g=>g=q) w).setCell (p:=⟨q,0,none⟩) (.inl rfl) u⟩
theorem zkQ (w:World) (q x:Nat) (hx:x<4294967296) (h:Blk w q 220 #[.int .u32 x]):Calls Tryz.prog 173 #[.pointer (some ⟨q,0,none⟩)] w (Reg w q (zat x)):=by
 have c0:w.cell? ⟨q,0,none⟩=some (.int .u32 (x:Int)):=h.cell (i:=0) rfl;have lq:=h.lt;have fz:=h.frozen 0;have e2:=zfP (a:=x/2) (b:=crcP) (by omega) (by decide);rw[show((crcP:Nat):Int)=2197175160 from rfl,show((x/2:Nat):Int)=(x:Int)/2 by omega] at e2;have e1:=and_u32 hx;rw[show((x%2:Nat):Int)=(x:Int)%2 by omega] at e1;have h1:=zgK (u:=.int .u32 ((x:Int)/2)) h;have h2:=zgK (u:=.int .u32 (((x/2)^^^crcP:Nat):Int)) h1.1;have HB1:=hid h1.1;have HK1:=hid h1.2;have HB2:=hid h2.1;have HK2:=hid (h1.2.trans h2.2);clear h1 h2;by_cases ho:x%2=1
 ·have HS:=hid (zh7 ho)
  have d1:((x:Int)%2==1)=true:=by simp;omega
  clear h ho hx;go_enter Tryz.func173,Tryz.ntmps173;go_wp2_with fail
  go_end0
  rw[←HS.out];rw[←HS.out] at HB2 HK2;exact⟨rfl,HB2.out,HK2.out⟩
 ·have HS:=hid (zjb ho)
  have d1:((x:Int)%2==1)=false:=by simp;omega
  clear h ho hx HB2 HK2;rw[show((x:Int)/2)=((x/2:Nat):Int) by omega,←HS.out] at HB1 HK1;go_enter Tryz.func173,Tryz.ntmps173;go_wp2_with fail
  go_end0
  rw[show((x:Int)/2)=((x/2:Nat):Int) by omega,←HS.out];exact⟨rfl,HB1.out,HK1.out⟩
theorem takeD {s:ByteArray} {k:Nat} (h:k<s.size):s.data.toList.take (k+1)=s.data.toList.take k++[s[k]]:=by
 have hl:k<s.data.toList.length:=by rw[Array.length_toList];exact h
 rw[List.take_succ_eq_append_getElem hl];rfl
theorem zkP (w:World) (s:ByteArray) (hs:s.size≤1000000):Calls Tryz.prog 146 #[.string s] w (Ret (.int .i64 (zaF s.data.toList)) w):=by
 have HBit:=fun W q x hx h=>hid (zkQ W q x hx h);have HB0:=hid (Blk.new w 220 #[.int .u32 4294967295]);have HE0:=hid (Ext.alloc w (.cells #[.int .u32 4294967295] 220));go_enter Tryz.func146,Tryz.ntmps146;go_wp2_with fail
 obtain⟨q,hq⟩:∃ q,q=w.heap.size:=⟨_,rfl⟩
 rw[←hq] at HB0⊢;generalize w.alloc (.cells #[.int .u32 4294967295] 220)=w0 at HB0 HE0⊢;have hqn:w.heap.size≤q:=by omega
 clear hq;go_loopw [9] (fun i wr=>∃ k:Nat,k≤s.size∧i=.int .i64 k∧Hid (Blk wr q 220 #[.int .u32 (zbI (s.data.toList.take k))])∧Hid (Ext w wr)) (fun i _=>s.size-(intOf i).toNat)
 case atStart=>exact⟨0,by omega,rfl,HB0.out,HE0.out⟩
 case round=>
  obtain⟨k,hk,rfl,hB,hE⟩:=hrel;clear HB0 HE0;by_cases hlt:k<s.size
  ·have e1:decide ((k:Int)<s.size)=true:=decide_eq_true (by omega)
   have e1':decide (k<s.size)=true:=decide_eq_true hlt;have HS:Hid (zbI (s.data.toList.take (k+1))=zde (zbI (s.data.toList.take k)) s[k].toNat):=by unfold Hid;rw[takeD hlt,zh8]
   have hx:=zem (s.data.toList.take k);have hb256:s[k].toNat<256:=UInt8.toNat_lt _;generalize zbI (s.data.toList.take k)=x at hB HS hx;have c0:wr.cell? ⟨q,0,none⟩=some (.int .u32 (x:Int)):=hB.out.cell (i:=0) rfl;have lq:=hB.out.lt;have fz:=hB.out.frozen 0;have eX:=zfP (a:=x) (b:=s[k].toNat) hx (by omega);go_wp2_with fail
   refine zcb (Rel.ext) (pre:=?pre55) (z:=?z55) ?hpre55 ?hz55 (Ext.steady wr) (by kernel_rfl) (by kernel_rfl) (by kernel_rfl) (by kernel_rfl) ?_
   case hpre55=>(simp only[List.dropLast_cons_cons,List.dropLast_singleton];first | done | exact rfl)
   case hz55=>(simp only[List.getLast?_cons_cons,List.getLast?_singleton];first | done | exact rfl)
   repeat (first
    | (refine AWq.val rfl rfl rfl rfl (fun K hK=>?_);go_big_quiet_op;refine hK _ ?_;clear hK K)
    | (refine AWq.skip rfl rfl rfl ?_;simp only[Act.put,zq6,zq7,zq8]))
   refine AWq.last rfl rfl rfl (fun w2 x2=>?_);simp only[zl,Act.put,zq6,zq7,zq8];have HB2:=hid (hB.out.ext x2);have c2:w2.cell? ⟨q,0,none⟩=some (.int .u32 (x:Int)):=HB2.out.cell (i:=0) rfl;have lq2:=HB2.out.lt;have fz2:=HB2.out.frozen 0;have h1:=zgK (u:=.int .u32 ((x^^^s[k].toNat:Nat):Int)) HB2.out;have HB3:=hid h1.1;have HE3:=hid (h1.2.toExt (hE.out.trans x2) (fun g hg=>by subst hg;exact hqn));have hx3:crcN 0 (x^^^s[k].toNat)<4294967296:=Nat.xor_lt_two_pow (n:=32) hx (by omega);have HS2:Hid (zbI (s.data.toList.take (k+1))=crcN 8 (x^^^s[k].toNat)):=HS.out;clear h1 c0 lq fz hB HS;go_wp2_with fail
   clear eX;generalize x^^^s[k].toNat=y at HB3 HE3 hx3 HS2⊢;generalize w2.setCell ⟨q,0,none⟩ (.int .u32 (y:Int))=w3 at HB3 HE3⊢;clear c2 fz2 lq2 HB2 x2;go_loopw [18] (fun jv wr3=>∃ j:Nat,j≤8∧jv=.int .i64 j∧Hid (Blk wr3 q 220 #[.int .u32 (crcN j y)])∧Hid (Ext w wr3)) (fun jv _=>8-(intOf jv).toNat)
   case atStart=>exact⟨0,by omega,rfl,HB3.out,HE3.out⟩
   case round=>
    obtain⟨j,hj,rfl,hBj,hEj⟩:=hrel;clear HB3 HE3;by_cases hj8:j<8
    ·have d1:decide ((j:Int)<8)=true:=decide_eq_true (by omega)
     have hlj:crcN j y<4294967296:=zg5 j hx3;have HSj:=hid (zgt j y);generalize crcN j y=z at hBj hlj HSj;go_wp2_with fail
     refine((HBit _ _ _ hlj hBj.out).out).mono ?_;rintro en w4 ⟨rfl,hb4,hk4⟩;have HB4:=hid hb4;have HE4:=hid (hk4.toExt hEj.out (fun g hg=>by subst hg;exact hqn));clear hb4 hk4;go_wp2_with fail
     go_roundw
     case rel=>exact⟨j+1,by omega,by go_num,by rw[HSj.out];exact HB4.out,HE4.out⟩
     case measure=>simp[intOf];omega
    ·obtain rfl:j=8:=by omega
     have d1:decide (((8:Nat):Int)<8)=false:=by decide
     go_wp2_with fail
     go_roundw
     case rel=>exact⟨k+1,by omega,by go_num,by rw[HS2.out];exact hBj.out,hEj.out⟩
     case measure=>simp[intOf];omega
  ·obtain rfl:k=s.size:=by omega
   rw[List.take_of_length_le (by rw[Array.length_toList];exact Nat.le_refl _)] at hB;have HS:Hid (4294967295^^^zbI s.data.toList=zaF s.data.toList):=Nat.xor_comm _ _;have hx:=zem s.data.toList;have hy:=zdd s.data.toList;generalize zbI s.data.toList=x at hB HS hx;have eX:=zfP (a:=4294967295) (b:=x) (by omega) hx;rw[HS.out,show((4294967295:Nat):Int)=IntKind.u32.max from rfl] at eX;have c0:wr.cell? ⟨q,0,none⟩=some (.int .u32 (x:Int)):=hB.out.cell (i:=0) rfl;have lq:=hB.out.lt;clear hlt hB;go_wp2_with fail
   go_ret;exact⟨by
    show Ending.returned (Value.int .i64 (wrap64 (zaF s.data.toList:Int)))=_
    rw[IntWalk.wrap64_in _ (by omega)],hE.out⟩
def zci (n:Nat):ByteArray:=⟨(zl9 n).toArray⟩
theorem zgu (w:World) (a b c d:Int):(convert 48 9 (.slice (some ⟨w.heap.size,0,none⟩) 4 4)).run Tryz.prog (w.alloc (.cells #[.int .u8 a,.int .u8 b,.int .u8 c,.int .u8 d] 5))=.ok (.string ⟨#[UInt8.ofNat a.toNat,UInt8.ofNat b.toNat,UInt8.ofNat c.toNat,UInt8.ofNat d.toNat]⟩) (w.alloc (.cells #[.int .u8 a,.int .u8 b,.int .u8 c,.int .u8 d] 5)):=by
 rw[run_convert_bytes_string _ _ _ 5 _ _ _ Tryz.underlying48 Tryz.underlying5 Tryz.underlying9];rw[run_bytesToString _ _ _ _ [a,b,c,d] (by simp[go_sem])];rfl
theorem zd3 {a b:Nat} (h:a%256=b%256):UInt8.ofNat a=UInt8.ofNat b:=by
 apply UInt8.toNat_inj.1;simpa using h
theorem zfx {y:Nat} (hy:y<4294967296):(⟨#[UInt8.ofNat ((y:Int)%256).toNat,UInt8.ofNat ((y:Int)/256%256).toNat,UInt8.ofNat ((y:Int)/65536%256).toNat,UInt8.ofNat ((y:Int)/16777216).toNat]⟩:ByteArray)=zci y:=by
 unfold zci zl9;rw[zd3 (a:=((y:Int)%256).toNat) (b:=y) (by omega),zd3 (a:=((y:Int)/256%256).toNat) (b:=y/256) (by omega),zd3 (a:=((y:Int)/65536%256).toNat) (b:=y/65536) (by omega),zd3 (a:=((y:Int)/16777216).toNat) (b:=y/16777216) (by omega)]
theorem zfG (w:World) (s:ByteArray) (hs:s.size≤1000000):Calls Tryz.prog 108 #[.string s] w (Ret (.string (zci (zaF s.data.toList))) w):=by
 have HSum:=fun W=>hid (zkP W s hs);have hy:=zdd s.data.toList;generalize zaF s.data.toList=y at HSum hy⊢;go_enter Tryz.func108,Tryz.ntmps108;go_wp2_with (go_at_call 146;refine((HSum _).out).mono ?_;rintro e w1 ⟨rfl,x1⟩)
 rw[zgu,zfx hy];go_wp2_with fail
 go_ret;exact⟨rfl,x1.alloc' _⟩
def chkZ (t f:ByteArray):Int:=if f.size≠4 then 5 else if f=zci (zaF t.data.toList) then 0 else 7
theorem zh5 (w:World) (s f:ByteArray) (hs:s.size≤1000000):Calls Tryz.prog 63 #[.string s,.string f] w (Ret (.int .i64 (chkZ s f)) w):=by
 have H4:=fun W=>hid (zfG W s hs);unfold chkZ;generalize zci (zaF s.data.toList)=t at H4⊢;by_cases h4:f.size≠4
 ·rw[if_pos h4]
  have d0:((f.size:Int) != 4)=true:=by simp;omega
  clear h4;go_enter Tryz.func63,Tryz.ntmps63;go_wp2_with fail
  go_ret;exact⟨rfl,Ext.refl _⟩
 ·rw[if_neg h4]
  have d0:((f.size:Int) != 4)=false:=by simp;omega
  clear h4;by_cases he:f=t
  ·rw[if_pos he]
   have d1:(f.toList==t.toList)=true:=by rw[he];simp
   clear he;go_enter Tryz.func63,Tryz.ntmps63;go_wp2_with (go_at_call 108;refine((H4 _).out).mono ?_;rintro e w1 ⟨rfl,x1⟩)
   go_ret;exact⟨rfl,x1⟩
  ·rw[if_neg he]
   have d1:(f.toList==t.toList)=false:=by
    rw[beq_eq_false_iff_ne];intro e;rw[Lib.toList_data,Lib.toList_data] at e;exact he (ByteArray.ext (Array.ext' e))
   clear he;go_enter Tryz.func63,Tryz.ntmps63;go_wp2_with (go_at_call 108;refine((H4 _).out).mono ?_;rintro e w1 ⟨rfl,x1⟩)
   go_ret;exact⟨rfl,x1⟩
end
section
def zaC (b:List UInt8):List UInt8:=lebL b.length++(b++crcF b)
theorem zdw (b:List UInt8):(zaC b).length=(lebL b.length).length+b.length+4:=by
 unfold zaC;rw[List.length_append,List.length_append,zdZ];omega
end
section
open Go.RowKit
theorem zjy (w:World) {B:Nat} (hB:B≤w.heap.size) (a:FldI):OwnF [a] B (.slice (some ⟨w.heap.size,0,none⟩) 1 1) (w.alloc (.cells #[.int .i64 a.n,.string a.s,.bool a.t] 140)):=
 zaH hB 140 3 1 #[.int .i64 a.n,.string a.s,.bool a.t] (by unfold maxLen;omega) rfl
theorem layN_c (w:World) (n:Nat) (hn:n<9223372036854775808):Calls Tryz.prog 51 #[.slice (some ⟨w.heap.size,0,none⟩) 1 1] (w.alloc (.cells #[.int .i64 n,.string ⟨#[]⟩,.bool false] 140)) (Ret (.tuple #[.string (lebB n),.int .i64 0]) (w.alloc (.cells #[.int .i64 n,.string ⟨#[]⟩,.bool false] 140))):=by
 have hl:(encL [fN n]).length≤65536:=by
  have:=zb1 hn;simp[encL,fN,FldI.enc];omega
 have h:=zgW _ _ [fN n] (zjy w (Nat.le_refl _) (fN n)).sl (fun f hf=>by
  rw[List.mem_singleton.1 hf];exact⟨by show(0:Nat)≤_;omega,fun _=>by show(0:Int)≤(n:Int);omega,by show(n:Int)≤_;omega⟩) (by simp)
 rw[zd1 hl,if_pos hl] at h;have e:(⟨(encL [fN n]).toArray⟩:ByteArray)=lebB n:=by
  unfold lebB;simp[encL,fN,FldI.enc]
 rw[e] at h;exact h
theorem layT_c (w:World) (s:ByteArray) (hs:(zO s).size≤65536):Calls Tryz.prog 51 #[.slice (some ⟨w.heap.size,0,none⟩) 1 1] (w.alloc (.cells #[.int .i64 0,.string s,.bool true] 140)) (Ret (.tuple #[.string (zO s),.int .i64 0]) (w.alloc (.cells #[.int .i64 0,.string s,.bool true] 140))):=by
 have e:(⟨(encL [fT s]).toArray⟩:ByteArray)=zO s:=by
  unfold zO lebB;apply ByteArray.ext;apply Array.ext';simp[encL,fT,FldI.enc]
 have hl:(encL [fT s]).length≤65536:=by
  have:(encL [fT s]).length=(⟨(encL [fT s]).toArray⟩:ByteArray).size:=rfl;rw[this,e];exact hs
 have hs2:s.size≤65536:=by
  unfold zO at hs;rw[ByteArray.size_append] at hs;omega
 have h:=zgW _ _ [fT s] (zjy w (Nat.le_refl _) (fT s)).sl (fun f hf=>by
  rw[List.mem_singleton.1 hf];exact⟨hs2,⟨fun _=>by show(0:Int)≤0;omega,by show(0:Int)≤_;omega⟩⟩) (by simp)
 rw[zd1 hl,if_pos hl,e] at h;exact h
def fszN (s:ByteArray):Nat:=(lebL s.size).length+s.size+4
def fszZ (s:ByteArray):Int:=if 65536<s.size then 65537 else if 65536<fszN s then 65537 else fszN s
theorem fsize_c (w:World) (b o c:Nat) (s:ByteArray) (hb:b<w.heap.size) (hc:1≤c) (hc2:c≤9223372036854775807) (hv:w.cell? ⟨b,o,none⟩=some (.string s)) (hs:s.size≤1000000):Calls Tryz.prog 106 #[.slice (some ⟨b,o,none⟩) 1 c] w (Ret (.int .i64 (fszZ s)) w):=by
 have HN:=fun W=>hid (fN_c W s.size);have HL:=fun W=>hid (layN_c W s.size (by omega));have h9:=zb1 (n:=s.size) (by omega);have hsz:=zee s.size;have HZ:Hid (fszZ s=if 65536<s.size then 65537 else if 65536<fszN s then 65537 else(fszN s:Int)):=rfl;have hN:fszN s=(lebL s.size).length+s.size+4:=rfl;rw[←hsz] at h9 hN;clear hsz;generalize lebB s.size=t at HL h9 hN;go_enter Tryz.func106,Tryz.ntmps106;go_wp2_with fail
 go_loopw [3,10] (fun nv iv wr=>Hid (Ext w wr)∧((iv=.int .i64 0∧nv=.int .i64 0)∨(iv=.int .i64 1∧nv=.int .i64 (fszN s)∧fszN s≤65536∧s.size≤65536))) (fun _ iv _=>1-(intOf iv).toNat)
 case atStart=>exact⟨Ext.refl _,.inl ⟨rfl,rfl⟩⟩
 case round=>
  obtain⟨hE,hk2⟩:=hrel;rcases hk2 with⟨rfl,rfl⟩ | ⟨rfl,rfl,hf,hs6⟩
  ·have c0:=hE.out.cell hv
   have lb:=Nat.lt_of_lt_of_le hb hE.out.size;by_cases h6:65536<s.size
   ·have d0:decide ((65536:Int)<s.size)=true:=decide_eq_true (by omega)
    have d0':decide (65536<s.size)=true:=decide_eq_true h6;have hz:=HZ.out;rw[if_pos h6] at hz;have HZ2:=hid hz;clear hz HZ h6 hN;go_wp2_with fail
    go_ret;exact⟨by rw[HZ2.out];rfl,hE.out⟩
   ·have d0:decide ((65536:Int)<s.size)=false:=decide_eq_false (by omega)
    have d0':decide (65536<s.size)=false:=decide_eq_false h6;have hz:=HZ.out;rw[if_neg h6] at hz;have HZ2:=hid hz;clear hz HZ;go_wp2_with fail
    refine((HN _).out).mono ?_;rintro en w2 ⟨rfl,x2⟩;have X2:=hid (hE.out.trans x2);clear x2;go_wp2_with fail
    refine((HL _).out).mono ?_;rintro en w3 ⟨rfl,x3⟩;have X3:=hid ((X2.out.alloc' _).trans x3);clear x3 X2;have hni:(t.size:Int)+s.size+4=(fszN s:Int):=by omega
    by_cases h7:65536<fszN s
    ·have d1:decide ((65536:Int)<fszN s)=true:=decide_eq_true (by omega)
     have d1':decide (65536<fszN s)=true:=decide_eq_true h7;have hz:=HZ2.out;rw[if_pos h7] at hz;have HZ3:=hid hz;have hfl:fszN s≤70000:=by omega
     clear hz HZ2 h6 h7;generalize fszN s=N at hN d1 d1' hni hfl⊢;clear hN;go_wp2_with fail
     go_ret;exact⟨by rw[HZ3.out];rfl,X3.out⟩
    ·have d1:decide ((65536:Int)<fszN s)=false:=decide_eq_false (by omega)
     have d1':decide (65536<fszN s)=false:=decide_eq_false h7;have hfl:fszN s≤65536:=by omega
     clear HZ2 h7 hN;go_wp2_with fail
     go_roundw
     case rel=>exact⟨X3.out,.inr ⟨by go_num,by first | rfl | go_num,hfl,by omega⟩⟩
     case measure=>simp[intOf]
  ·have hz:=HZ.out
   rw[if_neg (by omega),if_neg (by omega)] at hz;have HZ2:=hid hz;clear hz HZ hN;go_wp2_with fail
   go_ret;exact⟨by rw[HZ2.out];rfl,hE.out⟩
end
section
open Go.RowKit
theorem zln {w:World} {q:Nat} {v u:Value} {t:TypeId} (h:Blk w q t #[v]):Blk (w.setCell ⟨q,0,none⟩ u) q t #[u]∧Keep (fun g=>g=q) w (w.setCell ⟨q,0,none⟩ u):=
 ⟨h.set 0 u,(Keep.refl (fun g=>g=q) w).setCell (p:=⟨q,0,none⟩) (.inl rfl) u⟩
theorem flay1_c (w:World) (q B:Nat) (s:ByteArray) (h:Blk w q 48 #[.slice none 0 0]) (hB:B≤w.heap.size) (hs:fszN s≤65536):Calls Tryz.prog 107 #[.string s,.pointer (some ⟨q,0,none⟩)] w (fun en w'=>en=.returned (.tuple #[]) ∧ ∃ A c,Blk w' q 48 #[.slice A (zaC s.data.toList).length c]∧OwnB (zaC s.data.toList) B (.slice A (zaC s.data.toList).length c) w'∧Keep (fun g=>g=q) w w'):=by
 have hls:s.data.toList.length=s.size:=by rw[Array.length_toList];rfl
 have hs6:s.size≤65536:=by unfold fszN at hs;omega
 have htb:(zO s).size≤65536:=by
  unfold zO;rw[ByteArray.size_append,zee];unfold fszN at hs;omega
 have HT:=fun W=>hid (fT_c W s);have HL:=fun W=>hid (layT_c W s htb);have H4:=fun W=>hid (zfG W s (by omega));have hfr:zaC s.data.toList=(zO s).data.toList++(zci (zaF s.data.toList)).data.toList:=by
  unfold zaC zO lebB zci crcF;rw[hls];simp
 have htl:(zO s).data.toList.length=(zO s).size:=by rw[Array.length_toList];rfl
 have hfl:(zci (zaF s.data.toList)).data.toList.length=4:=rfl;rw[hfr];generalize zO s=t at HL htb htl;generalize zci (zaF s.data.toList)=f at H4 hfl;clear hfr;have HB:=hid h;have HBw:=hid hB;have lqw:=h.lt;clear h hB;go_enter Tryz.func107,Tryz.ntmps107;go_wp2_with fail
 refine((HT _).out).mono ?_;rintro en w1 ⟨rfl,x1⟩;have X1:=hid x1;clear x1;go_wp2_with fail
 refine((HL _).out).mono ?_;rintro en w2 ⟨rfl,x2⟩;have X2:=hid ((X1.out.alloc' _).trans x2);clear x2 X1;have HB2:=hid (HB.out.ext X2.out);have c0:w2.cell? ⟨q,0,none⟩=some (.slice none 0 0):=HB2.out.cell (i:=0) rfl;have lq:=HB2.out.lt;obtain⟨v3,w3,hr3,ho3,hk3,hb3⟩:=(OwnB.nil B w2).app (Nat.le_trans HBw.out X2.out.size) (ze1 w2 t) (by simp) (by rw[htl];omega);rw[List.nil_append] at ho3;have X3:=hid (hk3.toExt X2.out (fun g hg=>by cases hg));have HB3:=hid (HB.out.ext X3.out);have HO3:=hid ho3;have HN3:Hid (∀ g,v3.ownBlock=some g→w2.heap.size≤g):=fun g hg=>by
  rcases hb3 with hb3 | hb3
  ·rw[hb3] at hg;cases hg
  ·exact hb3 g hg
 clear ho3 hk3 hb3;clear HB;go_wp2_with (at_builtin;refine zx rfl (.tmp 12) (.tmp 13) _ _ rfl rfl rfl hr3 ?_)
 clear hr3 c0 lq;refine((H4 _).out).mono ?_;rintro en w4 ⟨rfl,x4⟩;have X4:=hid (X3.out.trans x4);have HB4:=hid (HB3.out.ext x4);have HO4:=hid (HO3.out.ext x4);clear x4 HB3 HO3 H4;obtain⟨v5,w5,hr5,ho5,hk5,hb5⟩:=HO4.out.app (Nat.le_trans HBw.out X4.out.size) (ze1 w4 f) (by rw[htl];omega) (by rw[hfl];omega);have hw2:=X2.out.size;have hqn:v3.ownBlock≠some q:=fun e=>by
  have:=HN3.out q e;omega
 have HB5:=hid (HB4.out.keep hk5 hqn);have X5:=hid (hk5.toExt X4.out (fun g hg=>by have:=HN3.out g hg;omega));obtain⟨A5,c5,rfl,_⟩:=zr (code:=za4) ho5.sl;have hq5:(Value.slice A5 (t.data.toList++f.data.toList).length c5).ownBlock≠some q:=fun e=>by
  rcases hb5 with hb5 | hb5
  ·exact hqn (by rw[←hb5];exact e)
  ·have:=hb5 q e
   have:=X4.out.size;omega
 have h6:=zln (u:=.slice A5 (t.data.toList++f.data.toList).length c5) HB5.out;have HB6:=hid h6.1;have HK6:=hid ((Keep.of_ext (S:=fun g=>g=q) X5.out).trans h6.2);have HO6:Hid (OwnB (t.data.toList++f.data.toList) B (.slice A5 (t.data.toList++f.data.toList).length c5) (w5.setCell ⟨q,0,none⟩ (.slice A5 (t.data.toList++f.data.toList).length c5))):=⟨ho5.1,zq ho5.2 h6.2 fun g hg hS=>hq5 (by rw[hg,hS])⟩
 have b0:w5.cell? ⟨q,0,none⟩=some (.slice none 0 0):=HB5.out.cell (i:=0) rfl;have z0:=HB5.out.frozen 0;have l0:=HB5.out.lt;clear h6 ho5 hk5 hb5 hqn hq5 HN3 HO4 HB4 X4 X3 X2 HBw HB2 hw2 lqw;generalize hNe:(t.data.toList++f.data.toList).length=N at HB6 HK6 HO6 hr5⊢;have HNe:=hid hNe;clear hNe;go_wp2_with (at_builtin;refine zx rfl (.tmp 14) (.tmp 16) _ _ rfl rfl rfl hr5 ?_)
 go_end0
 exact⟨rfl,A5,c5,by rw[HNe.out];exact HB6.out,by rw[HNe.out];exact HO6.out,HK6.out⟩
def zhR (s:ByteArray):Value:=if fszZ s>65536 then .tuple #[.string ⟨#[]⟩,.int .i64 4] else .tuple #[.string ⟨(zaC s.data.toList).toArray⟩,.int .i64 0]
theorem zi2 (l:List UInt8):0<(zaC l).length:=by
 rw[zdw];omega
theorem flay_c (w:World) (b o c:Nat) (s:ByteArray) (hb:b<w.heap.size) (hc:1≤c) (hc2:c≤9223372036854775807) (hv:w.cell? ⟨b,o,none⟩=some (.string s)) (hs:s.size≤1000000):Calls Tryz.prog 59 #[.slice (some ⟨b,o,none⟩) 1 c] w (Ret (zhR s) w):=by
 have HS:=fun W (hW:Ext w W)=>hid (fsize_c W b o c s (Nat.lt_of_lt_of_le hb hW.size) hc hc2 (hW.cell hv) hs);have hV:zhR s=if fszZ s>65536 then .tuple #[.string ⟨#[]⟩,.int .i64 4] else .tuple #[.string ⟨(zaC s.data.toList).toArray⟩,.int .i64 0]:=rfl;by_cases hz:fszZ s>65536
 ·rw[if_pos hz] at hV
  have HV:=hid hV;generalize fszZ s=z at HS hz;have d0:decide (65536<z)=true:=decide_eq_true hz;clear hV;go_enter Tryz.func59,Tryz.ntmps59;go_wp2_with (go_at_call 106;refine((HS _ (Ext.refl _)).out).mono ?_;rintro e w1 ⟨rfl,x1⟩)
  go_ret2;exact⟨by rw[HV.out];rfl,x1⟩
 ·rw[if_neg hz] at hV
  have HV:=hid hV;have hf:fszN s≤65536:=by
   unfold fszZ at hz;by_cases h6:65536<s.size
   ·rw[if_pos h6] at hz;omega
   ·rw[if_neg h6] at hz
    by_cases h7:65536<fszN s
    ·rw[if_pos h7] at hz;omega
    ·omega
  have HL:=fun W q B h hB=>hid (flay1_c W q B s h hB hf);have hpos:=zi2 s.data.toList;generalize fszZ s=z at HS hz;have d0:decide (65536<z)=false:=decide_eq_false hz;clear hV hz hf;go_enter Tryz.func59,Tryz.ntmps59;go_wp2_with (go_at_call 106;refine((HS _ (Ext.refl _)).out).mono ?_;rintro e w1 ⟨rfl,x1⟩;have X1:=hid x1;clear x1)
  have HB0:=hid (Blk.new w1 48 #[.slice none 0 0]);have HE0:=hid (X1.out.alloc' (.cells #[.slice none 0 0] 48));obtain⟨q,hq⟩:∃ q,q=w1.heap.size:=⟨_,rfl⟩
  have hqw:w.heap.size≤q:=by rw[hq];exact X1.out.size
  rw[←hq] at HB0⊢;generalize w1.alloc (.cells #[.slice none 0 0] 48)=w2 at HB0 HE0⊢;clear hq X1 HS;go_loopw [14] (fun iv wr=>Hid (Ext w wr)∧((iv=.int .i64 0∧Hid (Blk wr q 48 #[.slice none 0 0]))∨(iv=.int .i64 1 ∧ ∃ A n c,Hid (Blk wr q 48 #[.slice A n c]∧OwnB (zaC s.data.toList) w.heap.size (.slice A n c) wr)))) (fun iv _=>1-(intOf iv).toNat)
  case atStart=>exact⟨HE0.out,.inl ⟨rfl,HB0.out⟩⟩
  case round=>
   clear HB0 HE0;obtain⟨hE,hk2⟩:=hrel;rcases hk2 with⟨rfl,hB⟩ | ⟨rfl,A,n,c',hB⟩
   ·have c0:=hE.out.cell hv
    have lb:=Nat.lt_of_lt_of_le hb hE.out.size;go_wp2_with fail
    refine((HL _ _ w.heap.size hB.out hE.out.size).out).mono ?_;rintro en w3 ⟨rfl,A,c',hb3,ho3,hk3⟩;have X3:=hid (hk3.toExt hE.out (fun g hg=>by subst hg;exact hqw));have HB3:=hid (And.intro hb3 ho3);clear hb3 ho3 hk3;go_wp2_with fail
    go_roundw
    case rel=>exact⟨X3.out,.inr ⟨by go_num,A,_,c',HB3.out⟩⟩
    case measure=>simp[intOf]
   ·have b0:wr.cell? ⟨q,0,none⟩=some (.slice A n c'):=hB.out.1.cell (i:=0) rfl
    have l0:=hB.out.1.lt;have HO:=hid hB.out.2;have hcv:=zia HO.out hpos;clear hB;go_wp2_with fail
    go_ret2;exact⟨by rw[HV.out];rfl,hE.out⟩
end
section
open Go.RowKit
def zgB (b:Bool):List Value:=[.bool b]
theorem zfN:Coded zgB 1:=⟨fun _=>rfl,fun a u hu=>by simp[zgB] at hu;rw[hu];rfl⟩
theorem zk2:(Tryz.prog.info? 4).map (fun i=>(i.zero,i.size,i.bytes))=some (some (.bool false),1,1):=by kernel_rfl
theorem zgA:Elem Tryz.prog 185 4 1 1:=by
 obtain⟨i0,h0,h1,h2,h3⟩:=info_parts zk2;exact⟨Tryz.underlying185,i0,_,h0,h1,h2,h3,rfl⟩
theorem zfU {c k:Nat} (h:k<8):(zaE c).take (k+1)=(zaE c).take k++[c.testBit k]:=by
 have hl:k<(zaE c).length:=by simp[zaE];exact h
 rw[List.take_succ_eq_append_getElem hl];simp[zaE]
theorem zg8 (c:Nat):(zaE c).take 8=zaE c:=List.take_of_length_le (by simp[zaE])
theorem div_bit (c k:Nat):((c/2^k:Nat):Int)%2=(c.testBit k).toNat:=by
 rw[Nat.testBit,Nat.shiftRight_eq_div_pow,Nat.and_comm,Nat.and_one_is_mod];generalize c/2^k=m;rw[show(m:Int)%2=((m%2:Nat):Int) by omega];rcases Nat.mod_two_eq_zero_or_one m with e | e
 ·rw[e];rfl
 ·rw[e];rfl
def zdj (l:List Bool) (B:Nat) (v:Value) (w:World):Prop:=w.ownsRow B 4 1 v l.length (l.map zgB).flatten
theorem rbits_c (w:World) (s:ByteArray) (hs:s.size≤100000):Calls Tryz.prog 133 #[.string s] w (RetQ (zdj (zcr s.data.toList) w.heap.size) w):=by
 go_enter Tryz.func133,Tryz.ntmps133;go_wp2_with fail
 go_loopw [3,4] (fun ou i wr=>∃ k:Nat,k≤s.size∧i=.int .i64 k∧Hid (Ext w wr)∧zdj (zar (s.data.toList.take k)) w.heap.size ou wr) (fun _ i _=>s.size-(intOf i).toNat)
 case atStart=>exact⟨0,by omega,rfl,Ext.refl _,zp _ _ _ _⟩
 case round=>
  obtain⟨k,hk,rfl,hE,hO⟩:=hrel;have HO:=hid hO;clear hO;by_cases hlt:k<s.size
  ·have e1:decide ((k:Int)<s.size)=true:=decide_eq_true (by omega)
   have e1':decide (k<s.size)=true:=decide_eq_true hlt;have HS:Hid (zar (s.data.toList.take (k+1))=zar (s.data.toList.take k)++zaE s[k].toNat):=by unfold Hid;rw[takeD hlt,zfR]
   have hlen:(zar (s.data.toList.take k)).length≤800000:=by rw[zby,List.length_take];omega
   have hb256:s[k].toNat<256:=UInt8.toNat_lt _;generalize zar (s.data.toList.take k)=acc at HO HS hlen;go_wp2_with fail
   generalize s[k].toNat=c at HS hb256⊢;go_loopw [3,5,6] (fun ou nv jv wr3=>∃ j:Nat,j≤8∧jv=.int .i64 j∧nv=.int .i64 ((c/2^j:Nat):Int)∧Hid (Ext w wr3)∧zdj (acc++(zaE c).take j) w.heap.size ou wr3) (fun _ _ jv _=>8-(intOf jv).toNat)
   case atStart=>exact⟨0,by omega,rfl,by simp,hE.out,by simpa using HO.out⟩
   case round=>
    clear HO;obtain⟨j,hj,rfl,rfl,hEj,hOj⟩:=hrel;have HOj:=hid hOj;clear hOj;by_cases hj8:j<8
    ·have d1:decide ((j:Int)<8)=true:=decide_eq_true (by omega)
     have HB:=hid (zfU (c:=c) hj8);have hbit:=div_bit c j;have hle:c/2^j≤256:=Nat.le_trans (Nat.div_le_self _ _) (by omega);have HDv:Hid (c/2^(j+1)=c/2^j/2):=by unfold Hid;rw[Nat.pow_succ,Nat.div_div_eq_div_mul]
     have hla:(acc++(zaE c).take j).length≤1000000:=by rw[List.length_append,List.length_take];omega
     obtain⟨v',w6,hrun6,ho6,hk6,_⟩:=zaJ (P:=Tryz.prog) zgA zfN HOj.out hEj.out.size (c.testBit j) hla (by omega);have HE6:=hid (hk6.toExt hEj.out (fun q hq=>(zt HOj.out q hq).1));have HO6:=hid ho6;clear ho6 hk6 HOj;generalize c/2^j=m at hbit hle HDv⊢;have hb2:((m:Int)%2==1)=c.testBit j:=by rw[hbit];cases c.testBit j <;> rfl
     simp only[zgB] at hrun6;generalize c.testBit j=b at hbit hb2 hrun6 HB HO6;clear hbit;go_wp2_with (at_builtin;refine zx rfl (.tmp 22) (.tmp 26) _ _ rfl rfl rfl hrun6 ?_)
     go_roundw
     case rel=>exact⟨j+1,by omega,by go_num,by rw[HDv.out];go_num,HE6.out,by rw[HB.out,←List.append_assoc];exact HO6.out⟩
     case measure=>simp[intOf];omega
    ·obtain rfl:j=8:=by omega
     have d1:decide (((8:Nat):Int)<8)=false:=by decide
     go_wp2_with fail
     go_roundw
     case rel=>exact⟨k+1,by omega,by go_num,hEj.out,by rw[HS.out];rw[zg8] at HOj;exact HOj.out⟩
     case measure=>simp[intOf];omega
  ·obtain rfl:k=s.size:=by omega
   rw[List.take_of_length_le (by rw[Array.length_toList];exact Nat.le_refl _)] at HO;have hlen:(zar s.data.toList).length≤800000:=by rw[zby,Array.length_toList];show 8*s.size≤_;omega
   clear hlt;go_wp2_with fail
   go_loopw [3,7] (fun ou jv wr3=>∃ j:Nat,j≤32∧jv=.int .i64 j∧Hid (Ext w wr3)∧zdj (zar s.data.toList++List.replicate j false) w.heap.size ou wr3) (fun _ jv _=>32-(intOf jv).toNat)
   case atStart=>exact⟨0,by omega,rfl,hE.out,by simpa using HO.out⟩
   case round=>
    clear HO hE;obtain⟨j,hj,rfl,hEj,hOj⟩:=hrel;have HOj:=hid hOj;clear hOj;by_cases hj8:j<32
    ·have d1:decide ((j:Int)<32)=true:=decide_eq_true (by omega)
     have hla:(zar s.data.toList++List.replicate j false).length≤1000000:=by rw[List.length_append,List.length_replicate];omega
     obtain⟨v',w6,hrun6,ho6,hk6,_⟩:=zaJ (P:=Tryz.prog) zgA zfN HOj.out hEj.out.size false hla (by omega);have HE6:=hid (hk6.toExt hEj.out (fun q hq=>(zt HOj.out q hq).1));have HO6:=hid ho6;clear ho6 hk6 HOj;simp only[zgB] at hrun6;go_wp2_with (at_builtin;refine zx rfl (.tmp 34) (.tmp 35) _ _ rfl rfl rfl hrun6 ?_)
     go_roundw
     case rel=>exact⟨j+1,by omega,by go_num,HE6.out,by rw[List.replicate_succ',←List.append_assoc];exact HO6.out⟩
     case measure=>simp[intOf];omega
    ·obtain rfl:j=32:=by omega
     have d1:decide (((32:Nat):Int)<32)=false:=by decide
     go_wp2_with fail
     go_ret;exact⟨_,rfl,HOj.out,hEj.out⟩
def intC (n:Nat):List Value:=[.int .i64 n]
theorem zj5 (w:World):Calls Tryz.prog 134 #[] w (RetQ (fun v w'=>∃ b,v=.slice (some ⟨b,0,none⟩) 17 17∧w.heap.size≤b∧b<w'.heap.size ∧ ∀ k (h:k<powersL.length),w'.cell? ⟨b,k,none⟩=some (.int .i64 (powersL[k]:Nat))) w):=by
 have HN:=hid (Blk.new w 3 ((powersL.map intC).flatten).toArray);have HC:Hid (∀ k (h:k<powersL.length),((powersL.map intC).flatten).toArray[k]? = some (.int .i64 (powersL[k]:Nat))):=by
  intro k h;have h17:k<17:=h;rcases k with _ | _ | _ | _ | _ | _ | _ | _ | _ | _ | _ | _ | _ | _ | _ | _ | _ | k
  all_goals first
   | rfl
   | omega
 go_enter Tryz.func134,Tryz.ntmps134;go_wp2_with fail
 go_ret;exact⟨_,rfl,⟨_,rfl,Nat.le_refl _,HN.out.lt,fun k h=>HN.out.cell (HC.out k h)⟩,Ext.alloc _ _⟩
def Bits (w:World) (g:Nat) (l:List Bool):Prop:=∃ cs:Array Value,Blk w g 4 cs ∧ ∀ (t:Nat) (b:Bool),l[t]? = some b→cs[t]? = some (Value.bool b)
theorem Bits.ext {w w':World} {g:Nat} {l:List Bool} (h:Bits w g l) (he:Ext w w'):Bits w' g l:=by
 obtain⟨cs,h1,h2⟩:=h;exact⟨cs,h1.ext he,h2⟩
theorem Bits.cell {w:World} {g:Nat} {l:List Bool} (h:Bits w g l) {t:Nat} (ht:t<l.length):w.cell? ⟨g,t,none⟩=some (.bool (l[t]?.getD false)):=by
 obtain⟨cs,h1,h2⟩:=h;rw[List.getElem?_eq_getElem ht];exact h1.cell (h2 t _ (List.getElem?_eq_getElem ht))
theorem Bits.lt {w:World} {g:Nat} {l:List Bool} (h:Bits w g l):g<w.heap.size:=by
 obtain⟨cs,h1,_⟩:=h;exact h1.lt
theorem Bits.frozen {w:World} {g:Nat} {l:List Bool} (h:Bits w g l) (t:Nat):w.frozen? ⟨g,t,none⟩=false:=by
 obtain⟨cs,h1,_⟩:=h;exact h1.frozen t
theorem Bits.flip {w:World} {g:Nat} {l:List Bool} (h:Bits w g l) {t:Nat} (ht:t<l.length):Bits (w.setCell ⟨g,t,none⟩ (.bool (!(l[t]?.getD false)))) g (za1 l t)∧Keep (fun q=>q=g) w (w.setCell ⟨g,t,none⟩ (.bool (!(l[t]?.getD false)))):=by
 obtain⟨cs,h1,h2⟩:=h;have hc:=(Array.getElem?_eq_some_iff.1 (h2 t _ (List.getElem?_eq_getElem ht))).1;refine⟨⟨_,h1.set t _,fun u b hu=>?_⟩,(Keep.refl (fun q=>q=g) w).setCell (p:=⟨g,t,none⟩) (.inl rfl) _⟩;unfold za1 at hu;rw[Array.getElem?_setIfInBounds];rw[List.getElem?_set] at hu;by_cases e:t=u
 ·rw[if_pos e] at hu⊢
  subst e;rw[if_pos ht] at hu;rw[if_pos hc];injection hu with hu
  rw[hu]
 ·rw[if_neg e] at hu⊢
  exact h2 u b hu
theorem bits_of {w:World} {l:List Bool} {B:Nat} {v:Value} (h:zdj l B v w) (hl:0<l.length):∃ g c,v=.slice (some ⟨g,0,none⟩) l.length c∧l.length≤c∧c≤9223372036854775807∧B≤g∧Bits w g l:=by
 unfold zdj at h;rcases h.2 with⟨_,h0⟩ | ⟨g,cap,cur,hv,hb,hg,r⟩
 ·omega
 ·obtain⟨r1,r2,r3,r4⟩:=r
  unfold maxLen at r2;refine⟨g,cap,hv,r1,r2,hb,cur,hg,fun t b ht=>?_⟩;have hlt:t<l.length:=(List.getElem?_eq_some_iff.1 ht).1;have e:(l.map zgB).flatten=l.map Value.bool:=by
   clear r4 ht hlt r1 hv h hl
   induction l with
   | nil=>rfl
   | cons x l ih=>rw[List.map_cons,List.flatten_cons,ih];rfl
  rw[Nat.mul_one,e] at r4;have h5:(cur.toList.take l.length)[t]? = some (Value.bool b):=by rw[r4,List.getElem?_map,ht];rfl
  rw[List.getElem?_take,if_pos hlt] at h5;simpa using h5
end
section
open Go.RowKit
theorem zkO (b:List Bool) (i:Nat):divs b (i+1)=if(divs b i)[i]?.getD false then(powersL.map fun p=>i+32-p).foldl za1 (divs b i) else divs b i:=rfl
theorem zi4 (b:List Bool) (i k:Nat) (h:k<powersL.length):((powersL.take (k+1)).map fun p=>i+32-p).foldl za1 b=za1 (((powersL.take k).map fun p=>i+32-p).foldl za1 b) (i+32-powersL[k]):=by
 rw[List.take_succ_eq_append_getElem h,List.map_append,List.foldl_append];rfl
theorem zkc:∀ k (h:k<powersL.length),powersL[k]≤28:=by decide
theorem zjt (b:List Bool):∀ k,topN b k<2^k
 | 0=>by simp[topN]
 | k+1=>by
  have:=zjt b k;rw[topN,Nat.pow_succ];have h:(!(b[b.length-1-k]?.getD false)).toNat≤1:=Bool.toNat_le _;omega
theorem pow_32 (k:Nat) (h:k≤32):2^k≤4294967296:=Nat.pow_le_pow_right (n:=2) (by omega) h
theorem zky {S:Nat→Prop} {w w':World} (k:Keep S w w') {b o:Nat} {v:Value} (hb:b<w.heap.size) (hs:¬ S b) (h:w.cell? ⟨b,o,none⟩=some v):w'.cell? ⟨b,o,none⟩=some v:=by
 have hk:=k.block b hb hs;unfold World.cell? at h⊢;rw[hk];exact h
theorem rsum_c (w:World) (s:ByteArray) (hs:s.size≤100000):Calls Tryz.prog 85 #[.string s] w (Ret (.int .i64 (zaF s.data.toList)) w):=by
 have HB:=fun W=>hid (rbits_c W s hs);have HP:=fun W=>hid (zj5 W);have HTop:=hid (topN_32 s.data.toList);have hlen:(zcr s.data.toList).length=8*s.size+32:=by rw[zdg,Array.length_toList];rfl
 generalize zcr s.data.toList=D at HB HTop hlen;have hs8:s.data.toList.length=s.size:=by rw[Array.length_toList];rfl
 rw[hs8] at HTop;obtain⟨N,hN⟩:∃ N,D.length=N:=⟨_,rfl⟩
 have HN2:Hid (N=8*s.size+32):=hN.symm.trans hlen;have hN3:32≤N:=by omega
 have hN4:N≤1000000:=by omega
 clear hlen;go_enter Tryz.func85,Tryz.ntmps85;go_wp2_with (go_at_call 133;refine((HB _).out).mono ?_;rintro e w1 ⟨v1,rfl,hb1,x1⟩;obtain⟨g,c,rfl,g1,g2,g3,hb1⟩:=bits_of hb1 (by omega);have X1:=hid x1;have HB1:=hid hb1;clear x1 hb1)
 rw[hN] at g1;go_loopw [4] (fun iv wr=>∃ k:Nat,k≤32∧iv=.int .i64 k∧Hid (Ext w wr)∧Hid (Bits wr g (zaO D k))) (fun iv _=>32-(intOf iv).toNat)
 case atStart=>exact⟨0,by omega,rfl,X1.out,HB1.out⟩
 case round=>
  clear HB1 X1;obtain⟨k,hk,rfl,hE,hB⟩:=hrel;by_cases hlt:k<32
  ·have d1:decide ((k:Int)<32)=true:=decide_eq_true (by omega)
   have hkl:k<(zaO D k).length:=by rw[zcP];omega
   have c0:=hB.out.cell hkl;have lg:=hB.out.lt;have fz:=hB.out.frozen k;have h2:=hB.out.flip hkl;have HB2:=hid h2.1;have HE2:=hid (h2.2.toExt hE.out (fun q hq=>by subst hq;exact g3));have HS:=hid (zhQ D k);clear h2 hB hE;generalize (zaO D k)[k]?.getD false=b at c0 HB2 HE2;go_wp2_with fail
   go_roundw
   case rel=>exact⟨k+1,by omega,by go_num,HE2.out,by rw[HS.out];exact HB2.out⟩
   case measure=>simp[intOf];omega
  ·obtain rfl:k=32:=by omega
   have HLen:Hid (∀ i,(divs (zaO D 32) i).length=N):=fun i=>by rw[zdY,zcP,hN]
   have HB0:Hid (Bits wr g (divs (zaO D 32) 0)):=hB;have hN5:Hid (N-32=8*s.size):=by have:=HN2.out;unfold Hid;omega
   have HDv:Hid (∀ i,divs (zaO D 32) (i+1)=if(divs (zaO D 32) i)[i]?.getD false then(powersL.map fun p=>i+32-p).foldl za1 (divs (zaO D 32) i) else divs (zaO D 32) i):=fun i=>zkO _ i;generalize divs (zaO D 32)=dv at HLen HB0 HTop HDv;clear hB hlt HB hb1 hN HN2 hs8;have d1:decide (((32:Nat):Int)<32)=false:=by decide
   go_wp2_with (go_at_call 134;refine((HP _).out).mono ?_;rintro e w2 ⟨v2,rfl,⟨b2,rfl,hb2,lb2,hc2⟩,x2⟩;have X2:=hid (hE.out.trans x2);have HB2:=hid (HB0.out.ext x2);have hbg:b2≠g:=Nat.ne_of_gt (Nat.lt_of_lt_of_le HB0.out.lt hb2);have HC2:=hid hc2;clear x2 hc2)
   clear HB0 HP hE d1;go_loopw [6] (fun iv wr=>∃ i:Nat,i≤N-32∧iv=.int .i64 i∧Hid (Ext w wr)∧Hid (Keep (fun q=>q=g) w2 wr)∧Hid (Bits wr g (dv i))) (fun iv _=>N-32-(intOf iv).toNat)
   case atStart=>exact⟨0,by omega,rfl,X2.out,Keep.refl _ _,HB2.out⟩
   case round=>
    clear X2 HB2;obtain⟨i,hi,rfl,hE,hK,hB⟩:=hrel;by_cases hlt:i<N-32
    ·have d1:decide ((i:Int)<(N:Int)-32)=true:=decide_eq_true (by omega)
     have hil:i<(dv i).length:=by rw[HLen.out];omega
     have c0:=hB.out.cell hil;have lg:=hB.out.lt;have fz:=hB.out.frozen i;have HS:=hid (HDv.out i);cases hb:(dv i)[i]?.getD false with
     | false=>
      rw[hb] at c0 HS;rw[if_neg Bool.false_ne_true] at HS;clear hb hil HTop;go_wp2_with fail
      go_roundw
      case rel=>exact⟨i+1,by omega,by go_num,hE.out,hK.out,by rw[HS.out];exact hB.out⟩
      case measure=>simp[intOf];omega
     | true=>
      rw[hb] at c0 HS;rw[if_pos rfl] at HS;clear hb hil HTop;go_wp2_with fail
      obtain⟨fl,F0,FN,FA,FL⟩:∃ fl:Nat→List Bool,Hid (Bits wr g (fl 0))∧Hid (∀ k (h:k<powersL.length),fl (k+1)=za1 (fl k) (i+32-powersL[k]))∧Hid (fl 17=dv (i+1))∧Hid (∀ k,(fl k).length=N):=⟨fun k=>((powersL.take k).map fun p=>i+32-p).foldl za1 (dv i),hB.out,fun k h=>zi4 (dv i) i k h,HS.out.symm,fun k=>(zda _ _).trans (HLen.out i)⟩
      clear HS hB HLen HDv c0 lg fz d1;go_loopw [7] (fun jv wr3=>∃ j:Nat,j≤17∧jv=.int .i64 j∧Hid (Ext w wr3)∧Hid (Keep (fun q=>q=g) w2 wr3)∧Hid (Bits wr3 g (fl j))) (fun jv _=>17-(intOf jv).toNat)
      case atStart=>exact⟨0,by omega,rfl,hE.out,hK.out,F0.out⟩
      case round=>
       clear F0 hE hK;obtain⟨j,hj,rfl,hEj,hKj,hBj⟩:=hrel;by_cases hj17:j<17
       ·have d1:decide ((j:Int)<17)=true:=decide_eq_true (by omega)
        have d1':decide (j<17)=true:=decide_eq_true hj17;have y0:=zky hKj.out lb2 hbg (HC2.out j hj17);have lb:=Nat.lt_of_lt_of_le lb2 hKj.out.size;have hp:=zkc j hj17;have HN:=hid (FN.out j hj17);generalize powersL[j]'hj17=p at y0 hp HN;obtain⟨t,ht⟩:∃ t,i+32-p=t:=⟨_,rfl⟩
        have hidx:(i:Int)+32-(p:Int)=(t:Int):=by omega
        have htN:t<N:=by omega
        have htl:t<(fl j).length:=by rw[FL.out];exact htN
        rw[ht] at HN;have c0:=hBj.out.cell htl;have lg:=hBj.out.lt;have fz:=hBj.out.frozen t;have HBj:=hid htl;clear ht htl;go_wp2_with fail
        refine zcb (Rel.ext) (pre:=?pre89) (z:=?z89) ?hpre89 ?hz89 (Ext.steady wr) (by kernel_rfl) (by kernel_rfl) (by kernel_rfl) (by kernel_rfl) ?_
        case hpre89=>(simp only[List.dropLast_cons_cons,List.dropLast_singleton];first | done | exact rfl)
        case hz89=>(simp only[List.getLast?_cons_cons,List.getLast?_singleton];first | done | exact rfl)
        repeat (first
         | (refine AWq.val rfl rfl rfl rfl (fun K hK=>?_);go_big_quiet_op;refine hK _ ?_;clear hK K)
         | (refine AWq.skip rfl rfl rfl ?_;simp only[Act.put,zq6,zq7,zq8]))
        refine AWq.last rfl rfl rfl (fun w5 x5=>?_);simp only[zl,Act.put,zq6,zq7,zq8];have h2:=(hBj.out.ext x5).flip HBj.out;have lg5:=Nat.lt_of_lt_of_le lg x5.size;have fz5:=(hBj.out.ext x5).frozen t;have c5:=x5.cell c0;have HB6:=hid h2.1;have HE6:=hid (h2.2.toExt (hEj.out.trans x5) (fun q hq=>by subst hq;exact g3));have HK6:=hid ((hKj.out.ext x5).trans h2.2);clear h2 c0 fz lg x5;generalize (fl j)[t]?.getD false=b at c5 HB6 HE6 HK6⊢;go_wp2_with fail
        go_roundw
        case rel=>exact⟨j+1,by omega,by go_num,HE6.out,HK6.out,by rw[HN.out];exact HB6.out⟩
        case measure=>simp[intOf];omega
       ·obtain rfl:j=17:=by omega
        have d1:decide (((17:Nat):Int)<17)=false:=by decide
        clear FN FL hj17;go_wp2_with fail
        go_roundw
        case rel=>exact⟨i+1,by omega,by go_num,hEj.out,hKj.out,by rw[←FA.out];exact hBj.out⟩
        case measure=>simp[intOf];omega
    ·obtain rfl:i=N-32:=by omega
     have d1:decide (((N-32:Nat):Int)<(N:Int)-32)=false:=decide_eq_false (by omega);rw[hN5.out] at hB;have HL:=HLen.out (8*s.size);generalize dv (8*s.size)=b at hB HTop HL;have HLb:=hid HL;clear HLen HDv hlt hK hN5 HC2 HL hbg lb2 hb2;go_wp2_with fail
     clear d1 hi;go_loopw [8,10] (fun nv jv wr3=>∃ j:Nat,j≤32∧jv=.int .i64 j∧nv=.int .i64 (topN b j)∧Hid (Ext w wr3)∧Hid (Bits wr3 g b)) (fun _ jv _=>32-(intOf jv).toNat)
     case atStart=>exact⟨0,by omega,rfl,rfl,hE.out,hB.out⟩
     case round=>
      clear hE hB;obtain⟨j,hj,rfl,rfl,hEj,hBj⟩:=hrel;by_cases hj17:j<32
      ·have d1:decide ((j:Int)<32)=true:=decide_eq_true (by omega)
       have hn1:=zjt b j;have hn2:=pow_32 j hj;have hn3:topN b j≤4294967296:=by omega
       obtain⟨t,ht⟩:∃ t,N-1-j=t:=⟨_,rfl⟩
       have hidx:(N:Int)-1-(j:Int)=(t:Int):=by omega
       have htN:t<N:=by omega
       have HN:Hid (topN b (j+1)=topN b j*2+(!(b[t]?.getD false)).toNat):=by unfold Hid;rw[topN,HLb.out,ht]
       have c0:=hBj.out.cell (t:=t) (by rw[HLb.out];exact htN);have lg:=hBj.out.lt;clear ht hn1 hn2 HTop;generalize topN b j=n at HN hn3⊢;cases hb:b[t]?.getD false with
       | false=>
        rw[hb] at c0 HN;clear hb;go_wp2_with fail
        go_roundw
        case rel=>exact⟨j+1,by omega,by go_num,by rw[HN.out];go_num,hEj.out,hBj.out⟩
        case measure=>simp[intOf];omega
       | true=>
        rw[hb] at c0 HN;clear hb;go_wp2_with fail
        go_roundw
        case rel=>exact⟨j+1,by omega,by go_num,by rw[HN.out];go_num,hEj.out,hBj.out⟩
        case measure=>simp[intOf];omega
      ·obtain rfl:j=32:=by omega
       have d1:decide (((32:Nat):Int)<32)=false:=by decide
       rw[HTop.out];clear hj17;go_wp2_with fail
       go_ret;exact⟨rfl,hEj.out⟩
theorem rfour_c (w:World) (s:ByteArray) (hs:s.size≤100000):Calls Tryz.prog 37 #[.string s] w (Ret (.string (zci (zaF s.data.toList))) w):=by
 have HSum:=fun W=>hid (rsum_c W s hs);have hy:=zdd s.data.toList;generalize zaF s.data.toList=y at HSum hy⊢;go_enter Tryz.func37,Tryz.ntmps37;go_wp2_with (go_at_call 85;refine((HSum _).out).mono ?_;rintro e w1 ⟨rfl,x1⟩)
 rw[zgu,zfx hy];go_wp2_with fail
 go_ret;exact⟨rfl,x1.alloc' _⟩
end
end Go.Proofs.YtofjpdgojoppbaaGreatDoor
