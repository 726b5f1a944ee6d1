/-
  Of the claim's proof: FrA, FrB, FrC, FrD.
-/
import Derived.OwnWalk
import Derived.Test.YtofjpdgojoppbaaGreatDoorS01
import Derived.Test.YtofjpdgojoppbaaGreatDoorS05
import Derived.Test.YtofjpdgojoppbaaGreatDoorS29
set_option maxRecDepth 100000
set_option maxHeartbeats 16000000
set_option linter.unusedVariables false
set_option linter.unusedSimpArgs false
namespace Go.Proofs.YtofjpdgojoppbaaGreatDoor
section
open Go.RowKit
def numF:Nat→Nat→Nat→List UInt8→Int×Nat×List UInt8
 | 0,_,_,s=>(6,0,s)
 | _+1,_,_,[]=>(5,0,[])
 | f+1,i,acc,c::r=>if 128≤c.toNat then numF f (i+1) (acc+c.toNat%128*128^i) r else if c.toNat=0∧0<i then(6,0,r) else(0,acc+c.toNat%128*128^i,r)
theorem zcB {f i acc:Nat} {c:UInt8} {r:List UInt8} (h:128≤c.toNat):numF (f+1) i acc (c::r)=numF f (i+1) (acc+c.toNat%128*128^i) r:=by rw[numF,if_pos h]
theorem zdI {f i acc:Nat} {c:UInt8} {r:List UInt8} (h:¬ 128≤c.toNat) (hz:c.toNat=0∧0<i):numF (f+1) i acc (c::r)=(6,0,r):=by rw[numF,if_neg h,if_pos hz]
theorem zc0 {f i acc:Nat} {c:UInt8} {r:List UInt8} (h:¬ 128≤c.toNat) (hz:¬ (c.toNat=0∧0<i)):numF (f+1) i acc (c::r)=(0,acc+c.toNat%128*128^i,r):=by rw[numF,if_neg h,if_neg hz]
def num0 (s:List UInt8):Int×Nat×List UInt8:=numF 9 0 0 s
theorem zhC:∀ (f i acc:Nat) (s:List UInt8),(numF f i acc s).2.2.length≤s.length
 | 0,_,_,s=>Nat.le_refl _
 | _+1,_,_,[]=>Nat.le_refl _
 | f+1,i,acc,c::r=>by
  by_cases h:128≤c.toNat
  ·rw[zcB h]
   have:=zhC f (i+1) (acc+c.toNat%128*128^i) r;rw[List.length_cons];omega
  ·by_cases hz:c.toNat=0∧0<i
   ·rw[zdI h hz];simp
   ·rw[zc0 h hz];simp
theorem zjC:∀ (f i acc:Nat) (s:List UInt8),i+f=9→acc<128^i→(numF f i acc s).2.1<9223372036854775808
 | 0,_,_,s,_,_=>by show(0:Nat)<_;omega
 | _+1,_,_,[],_,_=>by show(0:Nat)<_;omega
 | f+1,i,acc,c::r,hf,ha=>by
  by_cases h:128≤c.toNat
  ·rw[zcB h]
   exact zjC f (i+1) _ r (by omega) (zfB ha _)
  ·by_cases hz:c.toNat=0∧0<i
   ·rw[zdI h hz];show(0:Nat)<_;omega
   ·rw[zc0 h hz]
    exact zg2 (zfB ha _) (by omega)
theorem zf6:∀ (f i acc m n:Nat) (rest:List UInt8),i+f=9→n<9223372036854775808→Reads n i acc m→numF f i acc (lebL m++rest)=(0,n,rest)
 | 0,i,acc,m,n,rest,hi,hn,h=>by
  have:=h.lt hn (by omega);omega
 | f+1,i,acc,m,n,rest,hi,hn,h=>by
  by_cases hm:127<m
  ·rw[zcD hm,List.cons_append]
   have e:(UInt8.ofNat (m%128+128)).toNat=m%128+128:=by rw[UInt8.toNat_ofNat'];omega
   rw[zcB (by rw[e];omega),e,show(m%128+128)%128=m%128 by omega];exact zf6 f (i+1) _ (m/128) n rest (by omega) hn (h.step hm)
  ·rw[zaz (by omega),List.cons_append,List.nil_append]
   have e:(UInt8.ofNat m).toNat=m:=by rw[UInt8.toNat_ofNat'];omega
   have hz:¬ ((UInt8.ofNat m).toNat=0∧0<i):=by
    rw[e];rintro⟨h1,h2⟩;have:=h.one h2;omega
   rw[zc0 (by rw[e];omega) hz,e,show m%128=m by omega,h.stop]
theorem zko {n:Nat} (hn:n<9223372036854775808) (rest:List UInt8):num0 (lebL n++rest)=(0,n,rest):=
 zf6 9 0 0 n n rest rfl hn (Reads.start n)
def za6 (s:List UInt8):Int×List UInt8×List UInt8:=if(num0 s).1=0 then(if(num0 s).2.2.length<(num0 s).2.1 then(5,[],(num0 s).2.2) else(0,(num0 s).2.2.take (num0 s).2.1,(num0 s).2.2.drop (num0 s).2.1)) else((num0 s).1,[],(num0 s).2.2)
theorem ziw (t rest:List UInt8) (ht:t.length<9223372036854775808):za6 (lebL t.length++(t++rest))=(0,t,rest):=by
 unfold za6;rw[zko ht];dsimp only;rw[if_pos rfl,if_neg (by rw[List.length_append];omega),List.take_left',List.drop_left']
 ·rfl
 ·rfl
def zmE (s:ByteArray) (k:Nat) (t s':ByteArray) (e':Int):Prop:=(s.size<k∧t=⟨#[]⟩∧s'=s∧e'=5)∨(k≤s.size∧t=s.extract 0 k∧s'=s.extract k s.size∧e'=0)
theorem zjv (w:World) (q:Nat) (s:ByteArray) (k:Nat) (h:InAt w q s 0) (hs:s.size≤1000000) (hk:k≤9223372036854775807):Calls Tryz.prog 109 #[.pointer (some ⟨q,0,none⟩),.int .i64 k] w (fun en w'=>∃ t s' e',en=.returned (.string t)∧Keep (fun g=>g=q) w w'∧InAt w' q s' e'∧zmE s k t s' e'):=by
 have HLf:=fun W (s':ByteArray) (e':Int) (h':InAt W q s' e')=>hid (zfs W q s' e' h');have HEr:=fun W (s':ByteArray) (e':Int) (h':InAt W q s' e')=>hid (zgo W q s' e' h');have HFa:=fun W (s':ByteArray) (e' k':Int) (h':InAt W q s' e')=>hid (zfC W q s' e' k' h');have H:=hid h;clear h;by_cases hb:s.size<k
 ·have d0:decide ((s.size:Int)<k)=true:=decide_eq_true (by omega)
  have d0':decide (s.size<k)=true:=decide_eq_true hb;have HT:Hid (zmE s k ⟨#[]⟩ s 5):=.inl ⟨hb,rfl,rfl,rfl⟩;clear hb;go_enter Tryz.func109,Tryz.ntmps109;go_wp2_with fail
  refine((HLf _ _ _ H.out).out).mono ?_;rintro e w1 ⟨rfl,x1⟩;have H1:=hid (H.out.ext x1);have K1:=hid (Keep.of_ext (S:=fun g=>g=q) x1);rw[show zdn s 0=(s.size:Int) from if_pos rfl];clear x1;go_wp2_with fail
  refine((HFa _ _ _ 5 H1.out).out).mono ?_;rintro e w2 ⟨rfl,k2,h2⟩;have H2:=hid h2;have K2:=hid (K1.out.trans k2);rw[show zgn 0 5=5 from rfl] at H2;clear k2 h2;go_wp2_with fail
  refine((HEr _ _ _ H2.out).out).mono ?_;rintro e w3 ⟨rfl,x3⟩;have H3:=hid (H2.out.ext x3);have K3:=hid (K2.out.ext x3);clear x3;go_wp2_with fail
  go_ret;exact⟨_,_,_,rfl,K3.out,H3.out,HT.out⟩
 ·have d0:decide ((s.size:Int)<k)=false:=decide_eq_false (by omega)
  have d0':decide (s.size<k)=false:=decide_eq_false hb;have hks:k≤s.size:=by omega
  have HT:Hid (zmE s k (s.extract 0 k) (s.extract k s.size) 0):=.inr ⟨hks,rfl,rfl,rfl⟩;clear hb;go_enter Tryz.func109,Tryz.ntmps109;go_wp2_with fail
  refine((HLf _ _ _ H.out).out).mono ?_;rintro e w1 ⟨rfl,x1⟩;have H1:=hid (H.out.ext x1);have K1:=hid (Keep.of_ext (S:=fun g=>g=q) x1);rw[show zdn s 0=(s.size:Int) from if_pos rfl];clear x1;go_wp2_with fail
  refine((HEr _ _ _ H1.out).out).mono ?_;rintro e w3 ⟨rfl,x3⟩;have H3:=hid (H1.out.ext x3);have K3:=hid (K1.out.ext x3);have hB:Blk w3 q 122 #[.string s,.int .i64 0]:=H3.out;have c0:=hB.cell (i:=0) (v:=.string s) rfl;have z0:=hB.frozen 0;have l0:=hB.lt;clear x3 hB;go_wp2_with fail
  go_ret;exact⟨_,_,_,rfl,K3.out.setCell (S:=fun g=>g=q) (p:=⟨q,0,none⟩) (.inl rfl) _,Blk.set H3.out 0 _,HT.out⟩
theorem nx_c (w:World) (q:Nat) (s:ByteArray) (h:InAt w q s 0) (hs:s.size≤1000000):Calls Tryz.prog 64 #[.pointer (some ⟨q,0,none⟩)] w (fun en w'=>∃ (z:Nat) (s':ByteArray) (e':Int),en=.returned (.int .i64 z)∧Keep (fun g=>g=q) w w'∧InAt w' q s' e'∧s'.size≤s.size∧num0 s.data.toList=(e',z,s'.data.toList)):=by
 have HTk:=fun W (s':ByteArray) (h':InAt W q s' 0) (hs':s'.size≤1000000)=>hid (zjv W q s' 1 h' hs' (by omega));have HFa:=fun W (s':ByteArray) (e' k':Int) (h':InAt W q s' e')=>hid (zfC W q s' e' k' h');have H:=hid h;clear h;go_enter Tryz.func64,Tryz.ntmps64;go_wp2_with fail
 go_loopw [3,9] (fun s3 s9 wr=>∃ (i acc:Nat) (s':ByteArray),i≤9∧s9=.int .i64 i∧s3=.int .i64 acc∧acc<128^i∧Hid (Keep (fun g=>g=q) w wr)∧Hid (InAt wr q s' 0)∧s'.size≤s.size∧Hid (num0 s.data.toList=numF (9-i) i acc s'.data.toList)) (fun _ s9 _=>9-(intOf s9).toNat)
 case atStart=>exact⟨0,0,s,by omega,rfl,rfl,by omega,Keep.refl _ _,H.out,Nat.le_refl _,rfl⟩
 case round=>
  obtain⟨i,acc,s',hi,rfl,rfl,hacc,HK,HI,hs',HFar⟩:=hrel;clear H;by_cases h9:i<9
  ·have d9:decide ((i:Int)<9)=true:=decide_eq_true (by omega)
   have d9':decide (i<9)=true:=decide_eq_true h9;rw[show 9-i=(9-(i+1))+1 by omega] at HFar;go_wp2_with fail
   refine((HTk _ _ HI.out (by omega)).out).mono ?_;rintro en w2 ⟨t,s2,e2,rfl,k2,h2,ht⟩;have HK2:=hid (HK.out.trans k2);have HI2:=hid h2;clear k2 h2 HTk;rcases ht with⟨h1,rfl,rfl,rfl⟩ | ⟨h1,rfl,rfl,rfl⟩
   ·have HR:Hid (num0 s.data.toList=(5,0,s2.data.toList)):=by
     have e0:s2.data.toList=[]:=List.eq_nil_of_length_eq_zero (by rw[Array.length_toList];show s2.size=0;omega);unfold Hid;rw[HFar.out,e0];rfl
    clear h1 HFar;go_wp2_with fail
    go_ret;exact⟨0,_,_,rfl,HK2.out,HI2.out,hs',HR.out⟩
   ·obtain⟨c,r,c1,c2,c3⟩:=zjP h1
    rw[c2];have hs2:(s'.extract 1 s'.size).size≤s.size:=by
     rw[ByteArray.size_extract];omega
    have hget:(⟨#[c]⟩:ByteArray)[0]'(by show(0:Nat)<1;omega)=c:=rfl;have hor:=zjA (acc:=acc) (i:=i) hacc h9 c.toNat;have HOr:=hid hor;have hnew:=zfB hacc c.toNat;have HNew:=hid hnew;clear hor hnew c2 h1;generalize s'.extract 1 s'.size=s2 at HI2 c3 hs2;by_cases hb:128≤c.toNat
    ·have HF2:Hid (num0 s.data.toList=numF (9-(i+1)) (i+1) (acc+c.toNat%128*128^i) s2.data.toList):=by
      unfold Hid;rw[HFar.out,c1,zcB hb,c3]
     have db:decide ((128:Int)≤c.toNat)=true:=decide_eq_true (by omega);clear c1 c3 HFar HI;generalize hcn:c.toNat=cn at *;clear hb;go_wp2_with fail
     go_roundw
     case rel=>exact⟨i+1,_,s2,by omega,by go_num,by rw[HOr.out],HNew.out,HK2.out,HI2.out,hs2,HF2.out⟩
     case measure=>simp[intOf];omega
    ·have db:decide ((128:Int)≤c.toNat)=false:=decide_eq_false (by omega)
     by_cases hz:c.toNat=0∧0<i
     ·have HR:Hid (num0 s.data.toList=(6,0,s2.data.toList)):=by
       unfold Hid;rw[HFar.out,c1,zdI hb hz,c3]
      obtain⟨hz1,hz2⟩:=hz;have dz:((c.toNat:Int)==0)=true:=by simp[hz1]
      have di:decide ((0:Int)<i)=true:=decide_eq_true (by omega);have di':decide (0<i)=true:=decide_eq_true hz2;clear c1 c3 HFar HI hz1 hz2 HOr;generalize hcn:c.toNat=cn at *;clear hb;go_wp2_with fail
      refine((HFa _ _ _ 6 HI2.out).out).mono ?_;rintro en w3 ⟨rfl,k3,h3⟩;have HK3:=hid (HK2.out.trans k3);have HI3:=hid h3;clear k3 h3;go_wp2_with fail
      go_ret;exact⟨0,_,_,rfl,HK3.out,HI3.out,hs2,HR.out⟩
     ·have HR:Hid (num0 s.data.toList=(0,acc+c.toNat%128*128^i,s2.data.toList)):=by
       unfold Hid;rw[HFar.out,c1,zc0 hb hz,c3]
      have h63:acc+c.toNat%128*128^i<9223372036854775808:=zg2 HNew.out h9;have H63:=hid h63;clear h63 c1 c3 HFar HI;have dzi:((c.toNat:Int)==0)=false∨decide (0<i)=false:=by
       by_cases h3:c.toNat=0
       ·exact .inr (decide_eq_false fun h4=>hz ⟨h3,h4⟩)
       ·exact .inl (by simp;omega)
      clear hz;generalize hcn:c.toNat=cn at *;clear hb;cases dz:((cn:Int)==0) with
      | false=>
       go_wp2_with fail
       go_ret;exact⟨_,_,_,by rw[←HOr.out];rfl,HK2.out,HI2.out,hs2,HR.out⟩
      | true=>
       have di:decide (0<i)=false:=by
        rcases dzi with h3 | h3
        ·rw[dz] at h3;cases h3
        ·exact h3
       have di':decide ((0:Int)<i)=false:=decide_eq_false (by have:=of_decide_eq_false di;omega);clear dzi;go_wp2_with fail
       go_ret;exact⟨_,_,_,by rw[←HOr.out];rfl,HK2.out,HI2.out,hs2,HR.out⟩
  ·obtain rfl:i=9:=by omega
   have HR:Hid (num0 s.data.toList=(6,0,s'.data.toList)):=HFar;clear HFar HTk;go_wp2_with fail
   refine((HFa _ _ _ 6 HI.out).out).mono ?_;rintro en w3 ⟨rfl,k3,h3⟩;have HK3:=hid (HK.out.trans k3);have HI3:=hid h3;clear k3 h3;go_wp2_with fail
   go_ret;exact⟨0,_,_,rfl,HK3.out,HI3.out,hs',HR.out⟩
end
section
open Go.RowKit
theorem takee_c (w:World) (q:Nat) (s:ByteArray) (e:Int) (k:Nat) (h:InAt w q s e) (h0:e≠0) (hk:k≤9223372036854775807):Calls Tryz.prog 109 #[.pointer (some ⟨q,0,none⟩),.int .i64 k] w (fun en w'=>en=.returned (.string ⟨#[]⟩)∧Keep (fun g=>g=q) w w'∧InAt w' q s e):=by
 have HLf:=fun W (s':ByteArray) (e':Int) (h':InAt W q s' e')=>hid (zfs W q s' e' h');have HEr:=fun W (s':ByteArray) (e':Int) (h':InAt W q s' e')=>hid (zgo W q s' e' h');have HFa:=fun W (s':ByteArray) (e' k':Int) (h':InAt W q s' e')=>hid (zfC W q s' e' k' h');have H:=hid h;clear h;have hd:(e != 0)=true:=by simp[h0]
 have hl:zdn s e=0:=if_neg h0;have hf:zgn e 5=e:=if_neg h0;have HL0:=fun W (h':InAt W q s e)=>HLf W s e h';have HF0:=fun W (h':InAt W q s e)=>HFa W s e 5 h';rw[hl] at HL0;rw[hf] at HF0;clear hl hf HLf HFa h0;rcases k with _ | k
 ·go_enter Tryz.func109,Tryz.ntmps109
  go_wp2_with fail
  refine((HL0 _ H.out).out).mono ?_;rintro e w1 ⟨rfl,x1⟩;have H1:=hid (H.out.ext x1);have K1:=hid (Keep.of_ext (S:=fun g=>g=q) x1);clear x1;go_wp2_with fail
  refine((HEr _ _ _ H1.out).out).mono ?_;rintro e w3 ⟨rfl,x3⟩;have H3:=hid (H1.out.ext x3);have K3:=hid (K1.out.ext x3);clear x3;go_wp2_with fail
  go_ret;exact⟨rfl,K3.out,H3.out⟩
 ·have d0:decide ((0:Int)<(k:Int)+1)=true:=decide_eq_true (by omega)
  go_enter Tryz.func109,Tryz.ntmps109;go_wp2_with fail
  refine((HL0 _ H.out).out).mono ?_;rintro e w1 ⟨rfl,x1⟩;have H1:=hid (H.out.ext x1);have K1:=hid (Keep.of_ext (S:=fun g=>g=q) x1);clear x1;go_wp2_with fail
  refine((HF0 _ H1.out).out).mono ?_;rintro e w2 ⟨rfl,k2,h2⟩;have H2:=hid h2;have K2:=hid (K1.out.trans k2);clear k2 h2;go_wp2_with fail
  refine((HEr _ _ _ H2.out).out).mono ?_;rintro e w3 ⟨rfl,x3⟩;have H3:=hid (H2.out.ext x3);have K3:=hid (K2.out.ext x3);clear x3;go_wp2_with fail
  go_ret;exact⟨rfl,K3.out,H3.out⟩
theorem tx_c (w:World) (q:Nat) (s:ByteArray) (h:InAt w q s 0) (hs:s.size≤1000000):Calls Tryz.prog 60 #[.pointer (some ⟨q,0,none⟩)] w (fun en w'=>∃ (t s':ByteArray) (e':Int),en=.returned (.string t)∧Keep (fun g=>g=q) w w'∧InAt w' q s' e'∧za6 s.data.toList=(e',t.data.toList,s'.data.toList)):=by
 have HN:=hid (nx_c w q s h hs);have HTk:=fun W (s':ByteArray) (z:Nat) (h':InAt W q s' 0) (hs':s'.size≤1000000) (hz:z≤9223372036854775807)=>hid (zjv W q s' z h' hs' hz);have HTe:=fun W (s':ByteArray) (e':Int) (z:Nat) (h':InAt W q s' e') (h0:e'≠0) (hz:z≤9223372036854775807)=>hid (takee_c W q s' e' z h' h0 hz);clear h;go_enter Tryz.func60,Tryz.ntmps60;go_wp2_with fail
 refine(HN.out).mono ?_;rintro en w1 ⟨z,s1,e1,rfl,k1,h1,hs1,hr1⟩;have hz:z<9223372036854775808:=by
  have:=zjC 9 0 0 s.data.toList rfl (by omega);have e:numF 9 0 0 s.data.toList=(e1,z,s1.data.toList):=hr1;rw[e] at this;exact this
 have HK1:=hid k1;have HI1:=hid h1;have HR1:=hid hr1;clear k1 h1 hr1 HN;go_wp2_with fail
 by_cases he:e1=0
 ·subst he
  refine((HTk _ _ z HI1.out (by omega) (by omega)).out).mono ?_;rintro en w2 ⟨t,s2,e2,rfl,k2,h2,ht⟩;have HK2:=hid (HK1.out.trans k2);have HI2:=hid h2;clear k2 h2 HTk HTe;have HX:Hid (za6 s.data.toList=(e2,t.data.toList,s2.data.toList)):=by
   unfold Hid za6;rw[HR1.out];dsimp only;have hl:s1.data.toList.length=s1.size:=by rw[Array.length_toList];rfl
   rw[if_pos rfl,hl];rcases ht with⟨a1,rfl,rfl,rfl⟩ | ⟨a1,rfl,rfl,rfl⟩
   ·rw[if_pos a1]
   ·rw[if_neg (by omega)]
    have hx1:(s1.extract 0 z).data.toList=s1.data.toList.take z:=by
     rw[ByteArray.data_extract,Array.toList_extract,List.extract_eq_take_drop,List.drop_zero,Nat.sub_zero]
    have hx2:(s1.extract z s1.size).data.toList=s1.data.toList.drop z:=by
     rw[ByteArray.data_extract,Array.toList_extract,List.extract_eq_take_drop,List.take_of_length_le];rw[List.length_drop,hl];exact Nat.le_refl _
    rw[hx1,hx2]
  clear ht HR1 HI1 HK1;go_wp2_with fail
  go_ret;exact⟨_,_,_,rfl,HK2.out,HI2.out,HX.out⟩
 ·refine((HTe _ _ _ z HI1.out he (by omega)).out).mono ?_
  rintro en w2 ⟨rfl,k2,h2⟩;have HK2:=hid (HK1.out.trans k2);have HI2:=hid h2;clear k2 h2 HTk HTe;have HX:Hid (za6 s.data.toList=(e1,[],s1.data.toList)):=by
   unfold Hid za6;rw[HR1.out];dsimp only;rw[if_neg he]
  clear HR1 HI1 HK1 he;go_wp2_with fail
  go_ret;exact⟨_,_,_,rfl,HK2.out,HI2.out,HX.out⟩
def chk0 (t rest:List UInt8):Int:=if rest.length<4 then 5 else if rest.take 4=crcF t then 0 else 7
def zaK (s:List UInt8):List UInt8×Nat×Int:=
 if(za6 s).1≠0 then([],0,(za6 s).1)
 else if chk0 (za6 s).2.1 (za6 s).2.2≠0 then([],0,chk0 (za6 s).2.1 (za6 s).2.2)
 else((za6 s).2.1,s.length-(za6 s).2.2.length+4,0)
def zej (s:ByteArray):Value:=.tuple #[.string ⟨(zaK s.data.toList).1.toArray⟩,.int .i64 (zaK s.data.toList).2.1,.int .i64 (zaK s.data.toList).2.2]
theorem chkZ_0 (t r:ByteArray):chkZ t (r.extract 0 (min 4 r.size))=chk0 t.data.toList r.data.toList:=by
 unfold chkZ chk0;have hl:r.data.toList.length=r.size:=by rw[Array.length_toList];rfl
 have hx:(r.extract 0 (min 4 r.size)).data.toList=r.data.toList.take (min 4 r.size):=by
  rw[ByteArray.data_extract,Array.toList_extract,List.extract_eq_take_drop,List.drop_zero,Nat.sub_zero]
 have hz:(r.extract 0 (min 4 r.size)).size=min 4 r.size:=by rw[ByteArray.size_extract];omega
 rw[hz,hl];by_cases h4:r.size<4
 ·rw[if_pos (by omega),if_pos h4]
 ·rw[if_neg (by omega),if_neg h4,show min 4 r.size=4 by omega]
  rw[show min 4 r.size=4 by omega] at hx;have e:(r.extract 0 4=zci (zaF t.data.toList))↔(r.data.toList.take 4=crcF t.data.toList):=by
   constructor
   ·intro h
    rw[←hx,h];rfl
   ·intro h
    apply ByteArray.ext;apply Array.ext';rw[hx,h];rfl
  by_cases h:r.data.toList.take 4=crcF t.data.toList
  ·rw[if_pos h,if_pos (e.2 h)]
  ·rw[if_neg h,if_neg (fun h'=>h (e.1 h'))]
end
section
open Go.RowKit
theorem zf5:∀ (f i acc:Nat) (s:List UInt8),∃ k,k≤s.length∧(numF f i acc s).2.2=s.drop k
 | 0,_,_,s=>⟨0,Nat.zero_le _,rfl⟩
 | _+1,_,_,[]=>⟨0,Nat.zero_le _,rfl⟩
 | f+1,i,acc,c::r=>by
  by_cases h:128≤c.toNat
  ·rw[zcB h]
   obtain⟨k,h1,h2⟩:=zf5 f (i+1) (acc+c.toNat%128*128^i) r;exact⟨k+1,by rw[List.length_cons];omega,by rw[h2,List.drop_succ_cons]⟩
  ·by_cases hz:c.toNat=0∧0<i
   ·rw[zdI h hz];exact⟨1,by simp,rfl⟩
   ·rw[zc0 h hz];exact⟨1,by simp,rfl⟩
theorem ziv (s:List UInt8):(za6 s).2.2=s.drop (s.length-(za6 s).2.2.length):=by
 have key:∃ k,k≤s.length∧(za6 s).2.2=s.drop k:=by
  obtain⟨k,h1,h2⟩:=zf5 9 0 0 s;have h2:(num0 s).2.2=s.drop k:=h2;unfold za6
  split
  ·split
   ·exact⟨k,h1,h2⟩
   ·dsimp only
    rename_i h3
    rw[h2,List.length_drop] at h3;rw[h2,List.drop_drop];exact⟨_,by omega,rfl⟩
  ·exact⟨k,h1,h2⟩
 obtain⟨k,h1,h2⟩:=key;rw[h2,List.length_drop,show s.length-(s.length-k)=k by omega]
theorem zfY (s:List UInt8):(za6 s).2.2.length≤s.length∧(za6 s).2.1.length≤s.length:=by
 have h1:(num0 s).2.2.length≤s.length:=zhC 9 0 0 s;unfold za6
 split
 ·split
  ·exact⟨h1,Nat.zero_le _⟩
  ·dsimp only
   rw[List.length_drop,List.length_take];omega
 ·exact⟨h1,Nat.zero_le _⟩
theorem back_B (s:ByteArray):(⟨s.data.toList.toArray⟩:ByteArray)=s:=by apply ByteArray.ext;simp
theorem first_c (w:World) (s:ByteArray) (hs:s.size≤1000000):Calls Tryz.prog 23 #[.string s] w (Ret (zej s) w):=by
 have HO:=fun W=>hid (zbP W s);have HT:=fun W q (h:InAt W q s 0)=>hid (tx_c W q s h hs);have HE:=fun W q (s':ByteArray) (e':Int) (h:InAt W q s' e')=>hid (zgo W q s' e' h);have HL:=fun W q (s':ByteArray) (h:InAt W q s' 0)=>hid (zfs W q s' 0 h);have HC:=fun W (t f:ByteArray) (ht:t.size≤1000000)=>hid (zh5 W t f ht);go_enter Tryz.func23,Tryz.ntmps23;go_wp2_with (go_at_call 25;refine((HO _).out).mono ?_;rintro e w1 ⟨v1,rfl,⟨q,rfl,hq,hi⟩,hx⟩;have HX1:=hid hx;have HI1:=hid hi;have HQ:=hid hq;clear hx hi hq)
 refine((HT _ _ HI1.out).out).mono ?_;rintro en w2 ⟨t,s2,e2,rfl,k2,h2,ht⟩;have HX2:=hid (k2.toExt HX1.out (fun g hg=>by subst hg;exact HQ.out));have HI2:=hid h2;clear k2 h2 HX1 HI1 HO HT;go_wp2_with fail
 refine((HE _ _ _ _ HI2.out).out).mono ?_;rintro en w3 ⟨rfl,x3⟩;have HX3:=hid (HX2.out.trans x3);have HI3:=hid (HI2.out.ext x3);clear x3 HX2 HI2 HE;have hl2:s2.data.toList.length=s2.size:=by rw[Array.length_toList];rfl
 have hlt:t.data.toList.length=t.size:=by rw[Array.length_toList];rfl
 have hls:s.data.toList.length=s.size:=by rw[Array.length_toList];rfl
 have hlen:=zfY s.data.toList;have hdrop:=ziv s.data.toList;rw[ht] at hlen hdrop;dsimp only at hlen hdrop;rw[hl2,hlt,hls] at hlen;rw[hl2,hls] at hdrop;by_cases he:e2=0
 ·subst he
  have HF:Hid (∀ z,chk0 t.data.toList s2.data.toList=z→zej s=if z=0 then .tuple #[.string t,.int .i64 ((s.size-s2.size+4:Nat):Int),.int .i64 0] else .tuple #[.string ⟨#[]⟩,.int .i64 0,.int .i64 z]):=fun z hz=>by
   unfold zej zaK;rw[ht];dsimp only;rw[if_neg (by simp),hz,hl2,hls];by_cases h0:z=0
   ·rw[if_neg (by simp[h0]),if_pos h0,back_B]
   ·rw[if_pos h0,if_neg h0];rfl
  have hcut:s.extract (s.size-s2.size) s.size=s2:=by
   apply ByteArray.ext;apply Array.ext';rw[ByteArray.data_extract,Array.toList_extract,List.extract_eq_take_drop,←hdrop,List.take_of_length_le];rw[hl2];omega
  have HCut:=hid hcut;have HChk:=hid (chkZ_0 t s2);have hn1:s2.size≤s.size:=hlen.1;have hn2:t.size≤s.size:=hlen.2;clear ht hdrop hlen hl2 hlt hls hcut;go_wp2_with fail
  refine((HL _ _ _ HI3.out).out).mono ?_;rintro en w4 ⟨rfl,x4⟩;have HX4:=hid (HX3.out.trans x4);clear x4 HX3 HI3 HL;rw[show zdn s2 0=(s2.size:Int) from if_pos rfl];obtain⟨n,hn⟩:∃ n,s.size-s2.size=n:=⟨_,rfl⟩
  have hni:(s.size:Int)-(s2.size:Int)=(n:Int):=by omega
  have hnle:n≤s.size:=by omega
  rw[hn] at HCut HF;clear hn;have hcut:=HCut.out;clear HCut;go_wp2_with fail
  rw[show(min (4:Int) (s2.size:Int)).toNat=min 4 s2.size by omega];refine((HC _ _ _ (by omega)).out).mono ?_;rintro en w5 ⟨rfl,x5⟩;have HX5:=hid (HX4.out.trans x5);clear x5 HX4 HC hcut;rw[HChk.out];clear HChk;generalize chk0 t.data.toList s2.data.toList=z at HF⊢;have hF:=HF.out z rfl;cases hz:(z != 0) with
  | true=>
   have hz0:z≠0:=by simpa using hz
   rw[if_neg hz0] at hF;have HF:=hid hF;clear hz0 hF;go_wp2_with fail
   go_ret3
   exact⟨by rw[HF.out];rfl,HX5.out⟩
  | false=>
   have hz0:z=0:=by simpa using hz
   rw[if_pos hz0,show((n+4:Nat):Int)=(n:Int)+4 by omega] at hF;have HF2:=hid hF;subst hz0;clear hF HF;go_wp2_with fail
   go_ret3
   exact⟨by rw[HF2.out];rfl,HX5.out⟩
 ·have HF:Hid (zej s=.tuple #[.string ⟨#[]⟩,.int .i64 0,.int .i64 e2]):=by
   unfold Hid zej zaK;rw[ht];dsimp only;rw[if_pos he];rfl
  have hd:(e2 != 0)=true:=by simp[he]
  clear ht he hlen hdrop hl2 hlt hls HL HC;go_wp2_with fail
  go_ret3
  exact⟨by rw[HF.out];rfl,HX3.out⟩
end
section
open Go.RowKit
theorem zlr (w:World) (s:ByteArray) (hs:s.size≤100000):Calls Tryz.prog 22 #[.string s] w (Ret (.string ⟨(zaC s.data.toList).toArray⟩) w):=by
 have HT:=fun W=>hid (zc6 W s hs);have H4:=fun W=>hid (rfour_c W s hs);have hV:(zO s++zci (zaF s.data.toList))=⟨(zaC s.data.toList).toArray⟩:=by
  apply ByteArray.ext;apply Array.ext';have hl:s.data.toList.length=s.size:=by rw[Array.length_toList];rfl
  unfold zaC zO lebB zci crcF;rw[hl];simp
 have h9:(zO s).size≤100009:=by
  unfold zO;rw[ByteArray.size_append];have:=zft (n:=s.size) (by omega);omega
 have h4:(zci (zaF s.data.toList)).size≤4:=Nat.le_refl 4;have HV:=hid hV;generalize zO s=t at HT h9 HV;generalize zci (zaF s.data.toList)=f at H4 h4 HV;clear hV;go_enter Tryz.func22,Tryz.ntmps22;go_wp2_with fail
 refine((HT _).out).mono ?_;rintro en w1 ⟨rfl,x1⟩;go_wp2_with fail
 refine((H4 _).out).mono ?_;rintro en w2 ⟨rfl,x2⟩;have HX:=hid (x1.trans x2);clear x1 x2;go_wp2_with fail
 go_ret;exact⟨by rw[←HV.out];rfl,HX.out⟩
end
end Go.Proofs.YtofjpdgojoppbaaGreatDoor
