/-
  Of the claim's proof: PfG, PfH.
-/
import Derived.Test.YtofjpdgojoppbaaGreatDoorG05
import Derived.Test.YtofjpdgojoppbaaGreatDoorG14
set_option maxRecDepth 100000
set_option maxHeartbeats 16000000
set_option linter.unusedVariables false
set_option linter.unusedSimpArgs false
namespace Go.Proofs.YtofjpdgojoppbaaGreatDoor
section
open Go.RowKit
theorem getF_c (w:World) (s:ByteArray) (m:Int) (hm:w.cell? ⟨0,0,none⟩=some (.int .i64 m)) (hs:s.size≤90000):Calls Tryz.prog 66 #[.string s] w (fun en w'=>∃ (v:Value) (l:List ClauseI) (z:Int),en=.returned (.tuple #[v,.int .i64 z])∧Ext w w'∧((z=0∧zM l=true∧zh clB l=s∧RowAt ClauseI.cells 3 l v w'∧(∀ c∈l,zdX c)∧w'.ownsRow w.heap.size 99 3 v l.length (l.map ClauseI.cells).flatten)∨(z=6∧v=.slice none 0 0))∧(∀ f,zM f=true→s=zh clB f→z=0∧l=f)):=by
 have HP:=fun W=>hid (zlR W s hs clB ClauseOk (fun W' t ht _=>getC1_c W' t (by omega)));have HPF:=fun W (hW:Ext w W) v l h hl=>hid (zi2 W v l m (hW.cell hm) h hl);clear hm hs;go_enter Tryz.func66,Tryz.ntmps66;go_wp2_with fail
 refine((HP _).out).mono ?_;rintro en w1 ⟨v,b,l,rfl,hrow,_,hg,x1,hb,hty⟩;have HRow:=hid hrow;have HTy:=hid hty;have X1:=hid x1;have HG:=hid hg;have HB:=hid hb;have HS:=hid (sameF_c w1 v s _ _ (fun W hW=>HPF W (x1.trans hW) v l (hrow.1.ext hW) (fun c hc=>(hg c hc).1)));clear hrow x1 hg hb HP HPF hty;go_wp2_with fail
 refine(HS.out).mono ?_;rintro en w2 ⟨rfl,x2⟩;have HRow2:=hid (HRow.out.ext x2);have HTy2:=hid (zF HTy.out x2);have X2:=hid (X1.out.trans x2);clear x2 X1 HRow HS;have HD:Hid (∀ f,zM f=true→s=zh clB f→(okZ (zM l)=0∧putB (zM l) (zh clB l)=s)∧l=f):=fun f a0 a1=>by
  obtain⟨h64,hok⟩:=zbr a0;obtain rfl:=HB.out f hok (by omega) a1;rw[a0];exact⟨⟨rfl,a1.symm⟩,rfl⟩
 by_cases hc:okZ (zM l)=0∧putB (zM l) (zh clB l)=s
 ·rw[if_pos hc,if_pos hc]
  have hcl:zM l=true:=by
   cases h:zM l with
   | true=>rfl
   | false=>rw[h] at hc;exact absurd hc.1 (by decide)
  have he:=hc.2;rw[hcl] at he;have HC:=hid hcl;have HE:Hid (zh clB l=s):=he;clear hc hcl he HB;go_wp2_with fail
  go_ret2;exact⟨v,l,0,rfl,X2.out,.inl ⟨rfl,HC.out,HE.out,HRow2.out,HG.out,HTy2.out⟩,fun f a b=>⟨rfl,(HD.out f a b).2⟩⟩
 ·rw[if_neg hc,if_neg hc]
  have HN:=hid hc;clear hc HB;go_wp2_with fail
  go_ret2;exact⟨_,l,6,rfl,X2.out,.inr ⟨rfl,rfl⟩,fun f a b=>absurd (HD.out f a b).1 HN.out⟩
def zcP (f:List ClauseI) (k:Nat):ByteArray:=lebB f.length++⟨(encL ((f.take k).map fun x=>fT (clB x))).toArray⟩
theorem zi7 (f:List ClauseI):zcP f 0=lebB f.length:=by
 unfold zcP;apply ByteArray.ext;rw[ByteArray.data_append];simp[encL]
theorem zkB (f:List ClauseI):zcP f f.length=zh clB f:=by
 unfold zcP zh;rw[List.take_length,zad];apply ByteArray.ext;apply Array.ext';rw[ByteArray.data_append,Array.toList_append];rfl
theorem zi9 {f:List ClauseI} {k:Nat} (h:k<f.length):zcP f k++zG (clB f[k])=zcP f (k+1):=by
 unfold zcP;rw[List.take_succ_eq_append_getElem h,List.map_append];apply ByteArray.ext;apply Array.ext';simp only[ByteArray.data_append,Array.toList_append,zU];simp[encL,fT,FldI.enc]
theorem zi8 (f:List ClauseI) (B:Nat) (hB:B≤100000) (hl:f.length≤1000) (h:∀ x∈f,(clB x).size≤B) (k:Nat):(zcP f k).size≤9+(9+B)*f.length:=by
 have h1:=zel clB B (by omega) (f.take k) (fun x hx=>h x (List.mem_of_mem_take hx));have h2:=zdV (n:=f.length) (by omega);have h3:(9+B)*(f.take k).length≤(9+B)*f.length:=Nat.mul_le_mul_left _ (by rw[List.length_take];omega);unfold zcP;rw[ByteArray.size_append];have h4:(⟨(encL ((f.take k).map fun x=>fT (clB x))).toArray⟩:ByteArray).size=(encL ((f.take k).map fun x=>fT (clB x))).length:=rfl;omega
theorem zj8 {c:ClauseI} (hp:c.pre.size≤90000) (h1:in64 c.lo) (h2:in64 c.hi):(clB c).size≤c.pre.size+27:=by
 have a1:=zax c.pre (by omega);have a2:=zah h1.2;have a3:=zah h2.2;unfold clB;rw[ByteArray.size_append,ByteArray.size_append];omega
end
section
open Go.RowKit
theorem zgj (w:World) (v:Value) (f:List ClauseI) (h:Sl w 3 v (f.map ClauseI.cells)) (hl:f.length≤100) (hok:∀ x∈f,x.pre.size≤1000∧in64 x.lo∧in64 x.hi):Calls Tryz.prog 80 #[v] w (Ret (.string (zh clB f)) w):=by
 obtain⟨A,c,rfl,h1,h2,h3⟩:=zz h;unfold maxLen at h2;have HN0:=fun W=>hid (zck W f.length (by omega));rw[←zi7] at HN0;have HNz:=fun W z (hz:in64 z)=>hid (zS W z hz.1 hz.2);have HTx:=fun W s hs=>hid (zbj W s hs);have HOk:=hid hok;have HSz:=hid (fun k=>zi8 f 1027 (by omega) (by omega) (fun x hx=>by
  obtain⟨a,b,c⟩:=hok x hx;have:=zj8 (by omega) b c;omega) k)
 have HA:=hid (zkB f);have H3:=hid h3;clear h h3 hok;go_enter Tryz.func80,Tryz.ntmps80;go_wp2_with fail
 refine((HN0 _).out).mono ?_;rintro e w1 ⟨rfl,x1⟩;have HE1:=hid x1;clear x1 HN0;go_wp2_with fail
 go_loopw [3,4] (fun s3 s4 wr=>∃ k:Nat,k≤f.length∧s3=.string (zcP f k)∧s4=.int .i64 k∧Hid (Ext w wr)) (fun _ s4 _=>f.length-(intOf s4).toNat)
 case atStart=>exact⟨0,by omega,rfl,rfl,HE1⟩
 case round=>
  obtain⟨k,hk,rfl,rfl,hE⟩:=hrel;clear HE1;by_cases hlt:k<f.length
  ·have d1:decide ((k:Int)<f.length)=true:=decide_eq_true (by omega)
   have d1':decide (k<f.length)=true:=decide_eq_true hlt;obtain⟨b,o,rfl,lb,hcell⟩:=H3.out (by omega);have c0:=hE.out.cell (hcell k hlt 0 _ rfl);have c1:=hE.out.cell (hcell k hlt 1 _ rfl);have c2:=hE.out.cell (hcell k hlt 2 _ rfl);rw[Nat.add_zero] at c0;have lbr:=Nat.lt_of_lt_of_le lb hE.out.size;have hx:=HOk.out f[k] (List.getElem_mem hlt);have HM:=hid (zi9 hlt);have hS:=HSz.out k;clear hcell H3 HOk HSz HA lb;generalize f[k]=x at c0 c1 c2 hx HM;have HT1:=fun W=>HTx W x.pre (by omega);have HN1:=fun W=>HNz W x.lo hx.2.1;have HN2:=fun W=>HNz W x.hi hx.2.2;have s1:=zax x.pre (by omega);have s2:=zah hx.2.1.2;have s3:=zah hx.2.2.2
   have hx1:=hx.1;have s0:=zj8 (by omega) hx.2.1 hx.2.2;have s4:=zax (clB x) (by omega);have HT2:=fun W=>HTx W (clB x) (by omega);have hS2:(zcP f k).size≤200000:=by
    have:(9+1027)*f.length≤(9+1027)*100:=Nat.mul_le_mul_left _ hl;omega
   clear hS hx HTx HNz;unfold clB at HT2 HM s4;generalize zG x.pre=e1 at HT1 HT2 HM s1 s4;generalize numB x.lo=e2 at HN1 HT2 HM s2 s4;generalize numB x.hi=e3 at HN2 HT2 HM s3 s4;generalize zG (e1++e2++e3)=e4 at HT2 HM s4;generalize hS1:zcP f (k+1)=S1 at HM;have HS1:=hid hS1;clear hS1;generalize zcP f k=S at HM hS2⊢;have q1:(e1++e2).size≤1018:=by rw[ByteArray.size_append];omega
   have q2:(e1++e2++e3).size≤1027:=by rw[ByteArray.size_append];omega
   have q4:e4.size≤1100:=by rw[ByteArray.size_append,ByteArray.size_append] at s4;omega
   clear s0 s4;go_wp2_with fail
   refine zd (by kernel_rfl) (by kernel_rfl) (by kernel_rfl) ?_
   repeat (first
    | (refine AWq.val rfl rfl rfl rfl (fun K hK=>?_);go_big_quiet_op;refine hK _ ?_;clear hK K)
    | (refine AWq.skip rfl rfl rfl ?_;simp only[Act.put,zq6,zq7,zq8])
    | (refine AWq.call rfl Tryz.func47 (by kernel_rfl) (by kernel_rfl) rfl rfl rfl ?_;apply Exists.intro;refine And.intro (fun wc hc=>?_) ?_;(· (simp only[zm,zt,↓reduceIte,Nat.reduceEqDiff,zq1,zq2,zq3,zq4,zq5];with_reducible exact(HT1 _).out));simp only[Act.put,zq6,zq7,zq8])
    | (refine AWq.call rfl Tryz.func47 (by kernel_rfl) (by kernel_rfl) rfl rfl rfl ?_;apply Exists.intro;refine And.intro (fun wc hc=>?_) ?_;(· (simp only[zm,zt,↓reduceIte,Nat.reduceEqDiff,zq1,zq2,zq3,zq4,zq5];with_reducible exact(HT2 _).out));simp only[Act.put,zq6,zq7,zq8])
    | (refine AWq.call rfl Tryz.func46 (by kernel_rfl) (by kernel_rfl) rfl rfl rfl ?_;apply Exists.intro;refine And.intro (fun wc hc=>?_) ?_;(· (simp only[zm,zt,↓reduceIte,Nat.reduceEqDiff,zq1,zq2,zq3,zq4,zq5];with_reducible exact(HN1 _).out));simp only[Act.put,zq6,zq7,zq8])
    | (refine AWq.call rfl Tryz.func46 (by kernel_rfl) (by kernel_rfl) rfl rfl rfl ?_;apply Exists.intro;refine And.intro (fun wc hc=>?_) ?_;(· (simp only[zm,zt,↓reduceIte,Nat.reduceEqDiff,zq1,zq2,zq3,zq4,zq5];with_reducible exact(HN2 _).out));simp only[Act.put,zq6,zq7,zq8]))
   refine AWq.done rfl rfl rfl (fun w2 x2=>?_);simp only[zo,Act.put,zq6,zq7,zq8];rw[HM.out];clear c0 c1 c2 q1 q2 q4 hS2 HT1 HN1 HN2 HT2 HM;go_wp2_with fail
   go_roundw
   case rel=>exact⟨k+1,by omega,by rw[HS1.out],by go_num,hE.out.trans x2⟩
   case measure=>simp[intOf];omega
  ·obtain rfl:k=f.length:=by omega
   clear hlt hk HTx HNz HOk HSz H3;go_wp2_with fail
   go_ret;exact⟨by rw[←HA.out];rfl,hE.out⟩
end
end Go.Proofs.YtofjpdgojoppbaaGreatDoor
