/-
  Of the claim's proof: FrA.
-/
import Derived.Test.YtofjpdgojoppbaaGreatDoorG05
set_option maxRecDepth 100000
set_option maxHeartbeats 16000000
set_option linter.unusedVariables false
set_option linter.unusedSimpArgs false
namespace Go.Proofs.YtofjpdgojoppbaaGreatDoor
open Go.RowKit
def numF:Nat→Nat→Nat→List UInt8→Int×Nat×List UInt8
 | 0,_,_,s=>(6,0,s)
 | _+1,_,_,[]=>(5,0,[])
 | f+1,i,acc,c::r=>if 128≤c.toNat then numF f (i+1) (acc+c.toNat%128*128^i) r else if c.toNat=0∧0<i then(6,0,r) else(0,acc+c.toNat%128*128^i,r)
theorem zcm {f i acc:Nat} {c:UInt8} {r:List UInt8} (h:128≤c.toNat):numF (f+1) i acc (c::r)=numF f (i+1) (acc+c.toNat%128*128^i) r:=by rw[numF,if_pos h]
theorem zdn {f i acc:Nat} {c:UInt8} {r:List UInt8} (h:¬ 128≤c.toNat) (hz:c.toNat=0∧0<i):numF (f+1) i acc (c::r)=(6,0,r):=by rw[numF,if_neg h,if_pos hz]
theorem zcQ {f i acc:Nat} {c:UInt8} {r:List UInt8} (h:¬ 128≤c.toNat) (hz:¬ (c.toNat=0∧0<i)):numF (f+1) i acc (c::r)=(0,acc+c.toNat%128*128^i,r):=by rw[numF,if_neg h,if_neg hz]
def num0 (s:List UInt8):Int×Nat×List UInt8:=numF 9 0 0 s
theorem zh0:∀ (f i acc:Nat) (s:List UInt8),(numF f i acc s).2.2.length≤s.length
 | 0,_,_,s=>Nat.le_refl _
 | _+1,_,_,[]=>Nat.le_refl _
 | f+1,i,acc,c::r=>by
  by_cases h:128≤c.toNat
  ·rw[zcm h]
   have:=zh0 f (i+1) (acc+c.toNat%128*128^i) r;rw[List.length_cons];omega
  ·by_cases hz:c.toNat=0∧0<i
   ·rw[zdn h hz];simp
   ·rw[zcQ h hz];simp
theorem zhc:∀ (f i acc:Nat) (s:List UInt8),i+f=9→acc<128^i→(numF f i acc s).2.1<9223372036854775808
 | 0,_,_,s,_,_=>by show(0:Nat)<_;omega
 | _+1,_,_,[],_,_=>by show(0:Nat)<_;omega
 | f+1,i,acc,c::r,hf,ha=>by
  by_cases h:128≤c.toNat
  ·rw[zcm h]
   exact zhc f (i+1) _ r (by omega) (zeM ha _)
  ·by_cases hz:c.toNat=0∧0<i
   ·rw[zdn h hz];show(0:Nat)<_;omega
   ·rw[zcQ h hz]
    exact zfU (zeM ha _) (by omega)
theorem zgo:∀ (f i acc m n:Nat) (rest:List UInt8),i+f=9→n<9223372036854775808→Reads n i acc m→numF f i acc (lebL m++rest)=(0,n,rest)
 | 0,i,acc,m,n,rest,hi,hn,h=>by
  have:=h.lt hn (by omega);omega
 | f+1,i,acc,m,n,rest,hi,hn,h=>by
  by_cases hm:127<m
  ·rw[zcS hm,List.cons_append]
   have e:(UInt8.ofNat (m%128+128)).toNat=m%128+128:=by rw[UInt8.toNat_ofNat'];omega
   rw[zcm (by rw[e];omega),e,show(m%128+128)%128=m%128 by omega];exact zgo f (i+1) _ (m/128) n rest (by omega) hn (h.step hm)
  ·rw[zaF (by omega),List.cons_append,List.nil_append]
   have e:(UInt8.ofNat m).toNat=m:=by rw[UInt8.toNat_ofNat'];omega
   have hz:¬ ((UInt8.ofNat m).toNat=0∧0<i):=by
    rw[e];rintro⟨h1,h2⟩;have:=h.one h2;omega
   rw[zcQ (by rw[e];omega) hz,e,show m%128=m by omega,h.stop]
theorem zkD {n:Nat} (hn:n<9223372036854775808) (rest:List UInt8):num0 (lebL n++rest)=(0,n,rest):=
 zgo 9 0 0 n n rest rfl hn (Reads.start n)
def zal (s:List UInt8):Int×List UInt8×List UInt8:=if(num0 s).1=0 then(if(num0 s).2.2.length<(num0 s).2.1 then(5,[],(num0 s).2.2) else(0,(num0 s).2.2.take (num0 s).2.1,(num0 s).2.2.drop (num0 s).2.1)) else((num0 s).1,[],(num0 s).2.2)
theorem ziK (t rest:List UInt8) (ht:t.length<9223372036854775808):zal (lebL t.length++(t++rest))=(0,t,rest):=by
 unfold zal;rw[zkD ht];dsimp only;rw[if_pos rfl,if_neg (by rw[List.length_append];omega),List.take_left',List.drop_left']
 ·rfl
 ·rfl
def zmM (s:ByteArray) (k:Nat) (t s':ByteArray) (e':Int):Prop:=(s.size<k∧t=⟨#[]⟩∧s'=s∧e'=5)∨(k≤s.size∧t=s.extract 0 k∧s'=s.extract k s.size∧e'=0)
theorem zjO (w:World) (q:Nat) (s:ByteArray) (k:Nat) (h:InAt w q s 0) (hs:s.size≤1000000) (hk:k≤9223372036854775807):Calls Tryz.prog 109 #[.pointer (some ⟨q,0,none⟩),.int .i64 k] w (fun en w'=>∃ t s' e',en=.returned (.string t)∧Keep (fun g=>g=q) w w'∧InAt w' q s' e'∧zmM s k t s' e'):=by
 have HLf:=fun W (s':ByteArray) (e':Int) (h':InAt W q s' e')=>hid (zfM W q s' e' h');have HEr:=fun W (s':ByteArray) (e':Int) (h':InAt W q s' e')=>hid (zgF W q s' e' h');have HFa:=fun W (s':ByteArray) (e' k':Int) (h':InAt W q s' e')=>hid (zfV W q s' e' k' h');have H:=hid h;clear h;by_cases hb:s.size<k
 ·have d0:decide ((s.size:Int)<k)=true:=decide_eq_true (by omega)
  have d0':decide (s.size<k)=true:=decide_eq_true hb;have HT:Hid (zmM s k ⟨#[]⟩ s 5):=.inl ⟨hb,rfl,rfl,rfl⟩;clear hb;go_enter Tryz.func109,Tryz.ntmps109;go_wp2_with fail
  refine((HLf _ _ _ H.out).out).mono ?_;rintro e w1 ⟨rfl,x1⟩;have H1:=hid (H.out.ext x1);have K1:=hid (Keep.of_ext (S:=fun g=>g=q) x1);rw[show zdO s 0=(s.size:Int) from if_pos rfl];clear x1;go_wp2_with fail
  refine((HFa _ _ _ 5 H1.out).out).mono ?_;rintro e w2 ⟨rfl,k2,h2⟩;have H2:=hid h2;have K2:=hid (K1.out.trans k2);rw[show zgE 0 5=5 from rfl] at H2;clear k2 h2;go_wp2_with fail
  refine((HEr _ _ _ H2.out).out).mono ?_;rintro e w3 ⟨rfl,x3⟩;have H3:=hid (H2.out.ext x3);have K3:=hid (K2.out.ext x3);clear x3;go_wp2_with fail
  go_ret;exact⟨_,_,_,rfl,K3.out,H3.out,HT.out⟩
 ·have d0:decide ((s.size:Int)<k)=false:=decide_eq_false (by omega)
  have d0':decide (s.size<k)=false:=decide_eq_false hb;have hks:k≤s.size:=by omega
  have HT:Hid (zmM s k (s.extract 0 k) (s.extract k s.size) 0):=.inr ⟨hks,rfl,rfl,rfl⟩;clear hb;go_enter Tryz.func109,Tryz.ntmps109;go_wp2_with fail
  refine((HLf _ _ _ H.out).out).mono ?_;rintro e w1 ⟨rfl,x1⟩;have H1:=hid (H.out.ext x1);have K1:=hid (Keep.of_ext (S:=fun g=>g=q) x1);rw[show zdO s 0=(s.size:Int) from if_pos rfl];clear x1;go_wp2_with fail
  refine((HEr _ _ _ H1.out).out).mono ?_;rintro e w3 ⟨rfl,x3⟩;have H3:=hid (H1.out.ext x3);have K3:=hid (K1.out.ext x3);have hB:Blk w3 q 122 #[.string s,.int .i64 0]:=H3.out;have c0:=hB.cell (i:=0) (v:=.string s) rfl;have z0:=hB.frozen 0;have l0:=hB.lt;clear x3 hB;go_wp2_with fail
  go_ret;exact⟨_,_,_,rfl,K3.out.setCell (S:=fun g=>g=q) (p:=⟨q,0,none⟩) (.inl rfl) _,Blk.set H3.out 0 _,HT.out⟩
theorem nx_c (w:World) (q:Nat) (s:ByteArray) (h:InAt w q s 0) (hs:s.size≤1000000):Calls Tryz.prog 64 #[.pointer (some ⟨q,0,none⟩)] w (fun en w'=>∃ (z:Nat) (s':ByteArray) (e':Int),en=.returned (.int .i64 z)∧Keep (fun g=>g=q) w w'∧InAt w' q s' e'∧s'.size≤s.size∧num0 s.data.toList=(e',z,s'.data.toList)):=by
 have HTk:=fun W (s':ByteArray) (h':InAt W q s' 0) (hs':s'.size≤1000000)=>hid (zjO W q s' 1 h' hs' (by omega));have HFa:=fun W (s':ByteArray) (e' k':Int) (h':InAt W q s' e')=>hid (zfV W q s' e' k' h');have H:=hid h;clear h;go_enter Tryz.func64,Tryz.ntmps64;go_wp2_with fail
 go_loopw [3,9] (fun s3 s9 wr=>∃ (i acc:Nat) (s':ByteArray),i≤9∧s9=.int .i64 i∧s3=.int .i64 acc∧acc<128^i∧Hid (Keep (fun g=>g=q) w wr)∧Hid (InAt wr q s' 0)∧s'.size≤s.size∧Hid (num0 s.data.toList=numF (9-i) i acc s'.data.toList)) (fun _ s9 _=>9-(intOf s9).toNat)
 case atStart=>exact⟨0,0,s,by omega,rfl,rfl,by omega,Keep.refl _ _,H.out,Nat.le_refl _,rfl⟩
 case round=>
  obtain⟨i,acc,s',hi,rfl,rfl,hacc,HK,HI,hs',HFar⟩:=hrel;clear H;by_cases h9:i<9
  ·have d9:decide ((i:Int)<9)=true:=decide_eq_true (by omega)
   have d9':decide (i<9)=true:=decide_eq_true h9;rw[show 9-i=(9-(i+1))+1 by omega] at HFar;go_wp2_with fail
   refine((HTk _ _ HI.out (by omega)).out).mono ?_;rintro en w2 ⟨t,s2,e2,rfl,k2,h2,ht⟩;have HK2:=hid (HK.out.trans k2);have HI2:=hid h2;clear k2 h2 HTk;rcases ht with⟨h1,rfl,rfl,rfl⟩ | ⟨h1,rfl,rfl,rfl⟩
   ·have HR:Hid (num0 s.data.toList=(5,0,s2.data.toList)):=by
     have e0:s2.data.toList=[]:=List.eq_nil_of_length_eq_zero (by rw[Array.length_toList];show s2.size=0;omega);unfold Hid;rw[HFar.out,e0];rfl
    clear h1 HFar;go_wp2_with fail
    go_ret;exact⟨0,_,_,rfl,HK2.out,HI2.out,hs',HR.out⟩
   ·obtain⟨c,r,c1,c2,c3⟩:=zj7 h1
    rw[c2];have hs2:(s'.extract 1 s'.size).size≤s.size:=by
     rw[ByteArray.size_extract];omega
    have hget:(⟨#[c]⟩:ByteArray)[0]'(by show(0:Nat)<1;omega)=c:=rfl;have hor:=zjV (acc:=acc) (i:=i) hacc h9 c.toNat;have HOr:=hid hor;have hnew:=zeM hacc c.toNat;have HNew:=hid hnew;clear hor hnew c2 h1;generalize s'.extract 1 s'.size=s2 at HI2 c3 hs2;by_cases hb:128≤c.toNat
    ·have HF2:Hid (num0 s.data.toList=numF (9-(i+1)) (i+1) (acc+c.toNat%128*128^i) s2.data.toList):=by
      unfold Hid;rw[HFar.out,c1,zcm hb,c3]
     have db:decide ((128:Int)≤c.toNat)=true:=decide_eq_true (by omega);clear c1 c3 HFar HI;generalize hcn:c.toNat=cn at *;clear hb;go_wp2_with fail
     go_roundw
     case rel=>exact⟨i+1,_,s2,by omega,by go_num,by rw[HOr.out],HNew.out,HK2.out,HI2.out,hs2,HF2.out⟩
     case measure=>simp[intOf];omega
    ·have db:decide ((128:Int)≤c.toNat)=false:=decide_eq_false (by omega)
     by_cases hz:c.toNat=0∧0<i
     ·have HR:Hid (num0 s.data.toList=(6,0,s2.data.toList)):=by
       unfold Hid;rw[HFar.out,c1,zdn hb hz,c3]
      obtain⟨hz1,hz2⟩:=hz;have dz:((c.toNat:Int)==0)=true:=by simp[hz1]
      have di:decide ((0:Int)<i)=true:=decide_eq_true (by omega);have di':decide (0<i)=true:=decide_eq_true hz2;clear c1 c3 HFar HI hz1 hz2 HOr;generalize hcn:c.toNat=cn at *;clear hb;go_wp2_with fail
      refine((HFa _ _ _ 6 HI2.out).out).mono ?_;rintro en w3 ⟨rfl,k3,h3⟩;have HK3:=hid (HK2.out.trans k3);have HI3:=hid h3;clear k3 h3;go_wp2_with fail
      go_ret;exact⟨0,_,_,rfl,HK3.out,HI3.out,hs2,HR.out⟩
     ·have HR:Hid (num0 s.data.toList=(0,acc+c.toNat%128*128^i,s2.data.toList)):=by
       unfold Hid;rw[HFar.out,c1,zcQ hb hz,c3]
      have h63:acc+c.toNat%128*128^i<9223372036854775808:=zfU HNew.out h9;have H63:=hid h63;clear h63 c1 c3 HFar HI;have dzi:((c.toNat:Int)==0)=false∨decide (0<i)=false:=by
       by_cases h3:c.toNat=0
       ·exact .inr (decide_eq_false fun h4=>hz ⟨h3,h4⟩)
       ·exact .inl (by simp;omega)
      clear hz;generalize hcn:c.toNat=cn at *;clear hb;cases dz:((cn:Int)==0) with
      | false=>
       go_wp2_with fail
       go_ret;exact⟨_,_,_,by rw[←HOr.out];rfl,HK2.out,HI2.out,hs2,HR.out⟩
      | true=>
       have di:decide (0<i)=false:=by
        rcases dzi with h3 | h3
        ·rw[dz] at h3;cases h3
        ·exact h3
       have di':decide ((0:Int)<i)=false:=decide_eq_false (by have:=of_decide_eq_false di;omega);clear dzi;go_wp2_with fail
       go_ret;exact⟨_,_,_,by rw[←HOr.out];rfl,HK2.out,HI2.out,hs2,HR.out⟩
  ·obtain rfl:i=9:=by omega
   have HR:Hid (num0 s.data.toList=(6,0,s'.data.toList)):=HFar;clear HFar HTk;go_wp2_with fail
   refine((HFa _ _ _ 6 HI.out).out).mono ?_;rintro en w3 ⟨rfl,k3,h3⟩;have HK3:=hid (HK.out.trans k3);have HI3:=hid h3;clear k3 h3;go_wp2_with fail
   go_ret;exact⟨0,_,_,rfl,HK3.out,HI3.out,hs',HR.out⟩
end Go.Proofs.YtofjpdgojoppbaaGreatDoor
