/-
  Of the claim's proof: PvD, LyC, KnF, KnG, MgE, KnH, MgK, KnI.
-/
import Derived.Test.YtofjpdgojoppbaaGreatDoorS08
import Derived.Test.YtofjpdgojoppbaaGreatDoorS15
import Derived.Test.YtofjpdgojoppbaaGreatDoorS20
import Derived.Test.YtofjpdgojoppbaaGreatDoorS22
import Derived.Test.YtofjpdgojoppbaaGreatDoorS24
import Derived.Test.YtofjpdgojoppbaaGreatDoorS25
set_option maxRecDepth 100000
set_option maxHeartbeats 16000000
set_option linter.unusedVariables false
set_option linter.unusedSimpArgs false
namespace Go.Proofs.YtofjpdgojoppbaaGreatDoor
section
open Go.RowKit
theorem zeT {v:Ver} (h:zaM v):zax v:=by
 obtain⟨h1,h2,h3,h4⟩:=h;unfold zax in64;omega
theorem zgf {f:List Ver} (h:itemsB f=true) (hs:∀ c∈f,zax c):∀ c∈f,zaM c:=by
 intro c hc;unfold itemsB at h;simp only[Bool.and_eq_true,decide_eq_true_eq,List.all_eq_true] at h;have h1:=h.1 c hc;have h2:=hs c hc;unfold zD at h1;unfold zax in64 at h2;rw[decide_eq_true_eq] at h1;unfold zaM;omega
theorem sameI_c (w:World) (v:Value) (s r:ByteArray) (e:Int) (HP:∀ W,Ext w W→Hid (Calls Tryz.prog 131 #[v] W (Ret (.tuple #[.string r,.int .i64 e]) W))):Calls Tryz.prog 130 #[v,.string s,.func (.func 131) #[] #[]] w (Ret (.tuple #[if e=0∧r=s then v else .slice none 0 0,.int .i64 (if e=0∧r=s then 0 else 6)]) w):=by
 have key:∀ (y:Value) (z:Int),(e=0∧r=s∧v=y∧z=0∨(e != 0)=true∧.slice none 0 0=y∧z=6∨e=0∧(r.toList==s.toList)=false∧.slice none 0 0=y∧z=6)→Calls Tryz.prog 130 #[v,.string s,.func (.func 131) #[] #[]] w (Ret (.tuple #[y,.int .i64 z]) w):=by
  rintro y z (⟨rfl,rfl,rfl,rfl⟩ | ⟨d0,rfl,rfl⟩ | ⟨rfl,d1,rfl,rfl⟩)
  ·have d0:(r.toList==r.toList)=true:=by simp
   go_enter Tryz.func130,Tryz.ntmps130;go_wp2_with fail
   refine((HP _ (Ext.refl _)).out).mono ?_;rintro en w1 ⟨rfl,x1⟩;have HE1:=hid x1;clear x1 HP;go_wp2_with fail
   go_ret2;exact⟨rfl,HE1.out⟩
  ·go_enter Tryz.func130,Tryz.ntmps130
   go_wp2_with fail
   refine((HP _ (Ext.refl _)).out).mono ?_;rintro en w1 ⟨rfl,x1⟩;have HE1:=hid x1;clear x1 HP;go_wp2_with fail
   go_ret2;exact⟨rfl,HE1.out⟩
  ·go_enter Tryz.func130,Tryz.ntmps130
   go_wp2_with fail
   refine((HP _ (Ext.refl _)).out).mono ?_;rintro en w1 ⟨rfl,x1⟩;have HE1:=hid x1;clear x1 HP;go_wp2_with fail
   go_ret2;exact⟨rfl,HE1.out⟩
 by_cases h0:e=0
 ·by_cases h1:r=s
  ·rw[if_pos ⟨h0,h1⟩,if_pos ⟨h0,h1⟩]
   exact key _ _ (.inl ⟨h0,h1,rfl,rfl⟩)
  ·rw[if_neg (fun h=>h1 h.2),if_neg (fun h=>h1 h.2)]
   exact key _ _ (.inr (.inr ⟨h0,by rw[zag];simp[h1],rfl,rfl⟩))
 ·rw[if_neg (fun h=>h0 h.1),if_neg (fun h=>h0 h.1)]
  exact key _ _ (.inr (.inl ⟨by simp[h0],rfl,rfl⟩))
end
section
open Go.RowKit
def putX (b:Bool) (s:ByteArray):ByteArray:=if b=true then capB s else⟨#[]⟩
def errX (b:Bool) (s:ByteArray):Int:=if b=true then(if s.size≤65536 then 0 else 4) else 2
theorem zbg {b:Bool} {s:ByteArray}:errX b s=0↔b=true∧s.size≤65536:=by
 unfold errX;cases b with
 | false=>simp
 | true=>
  by_cases h:s.size≤65536
  ·rw[if_pos rfl,if_pos h];simp[h]
  ·rw[if_pos rfl,if_neg h];simp[h]
theorem zdH {b:Bool} {s:ByteArray} (h:errX b s=0):putX b s=s:=by
 obtain⟨h1,h2⟩:=zbg.1 h;unfold putX capB;rw[if_pos h1,if_pos h2]
theorem gotX {b:Bool} {s t:ByteArray} (ht:t.size≤65536):(errX b s=0∧putX b s=t)↔(b=true∧s=t):=by
 constructor
 ·rintro⟨h1,h2⟩
  rw[zdH h1] at h2;exact⟨(zbg.1 h1).1,h2⟩
 ·rintro⟨h1,rfl⟩
  have h0:=zbg.2 ⟨h1,ht⟩;exact⟨h0,zdH h0⟩
theorem zdV {s:ByteArray} (hs:s.size≠0):(if true=true∧(capB s).size≠0 then capB s else⟨#[]⟩)=putX true s∧(if true=true then(if(capB s).size≠0 then(0:Int) else 4) else 2)=errX true s:=by
 unfold putX errX capB;by_cases h:s.size≤65536
 ·rw[if_pos h,if_pos h,if_pos ⟨rfl,hs⟩,if_pos rfl,if_pos rfl,if_pos rfl,if_pos hs]
  exact⟨rfl,rfl⟩
 ·rw[if_neg h,if_neg h]
  exact⟨rfl,rfl⟩
theorem zgP (w:World) (v:Value) (f:List Ver) (h:Sl w 2 v (f.map Ver.cells)) (hl:f.length≤90000) (hs:∀ c∈f,zax c):Calls Tryz.prog 131 #[v] w (Ret (.tuple #[.string (putX (itemsB f) (zg verB f)),.int .i64 (errX (itemsB f) (zg verB f))]) w):=by
 have HC:=hid (zjI w v f h (by omega));have HF:=fun W s b=>hid (zg0 W s b);cases hb:itemsB f with
 | false=>
  rw[hb] at HC;rw[show putX false (zg verB f)=⟨#[]⟩ from rfl,show errX false (zg verB f)=2 from rfl];obtain⟨A,c,rfl,_⟩:=zr h;clear h hs hb HF;go_enter Tryz.func131,Tryz.ntmps131;go_wp2_with fail
  refine(HC.out).mono ?_;rintro e w1 ⟨rfl,x1⟩;have X1:=hid x1;clear x1;go_wp2_with fail
  go_ret2;exact⟨rfl,X1.out⟩
 | true=>
  have hok:=zgf hb hs;have HL:=fun W (hW:Ext w W)=>hid (zlV W v f verB (h.ext hW) (by omega) (fun x hx W' _=>by
   have:=one_c W' x (hok x hx);rw[show capB (verB x)=verB x from if_pos (by have:=zbd (hok x hx);omega)];exact this) (fun x hx=>zhf (hok x hx)))
  have hpos:=zbf verB f;rw[hb] at HC;generalize zg verB f=s at HL hpos⊢;have HFs:=fun W=>HF W (capB s) true;rw[(zdV hpos).1,(zdV hpos).2] at HFs;obtain⟨A,c,rfl,_⟩:=zr h;clear h hs hb HF hok hpos;generalize capB s=r at HL HFs;generalize putX true s=r2 at HFs⊢;generalize errX true s=z2 at HFs⊢;go_enter Tryz.func131,Tryz.ntmps131;go_wp2_with fail
  refine(HC.out).mono ?_;rintro e w1 ⟨rfl,x1⟩;have X1:=hid x1;clear x1;go_wp2_with fail
  refine((HL _ X1.out).out).mono ?_;rintro e w2 ⟨rfl,x2⟩;have X2:=hid (X1.out.trans x2);clear x2;go_wp2_with fail
  refine((HFs _).out).mono ?_;rintro e w3 ⟨rfl,x3⟩;have X3:=hid (X2.out.trans x3);clear x3;go_wp2_with fail
  go_ret2;exact⟨rfl,X3.out⟩
theorem getIx_c (w:World) (s:ByteArray) (hs:s.size≤65536):Calls Tryz.prog 73 #[.string s] w (fun en w'=>∃ (v:Value) (l:List Ver) (z:Int),en=.returned (.tuple #[v,.int .i64 z])∧Ext w w'∧((z=0∧itemsB l=true∧zg verB l=s∧RowAt Ver.cells 2 l v w'∧(∀ c∈l,zaM c)∧l.length≤s.size∧w'.ownsRow w.heap.size 51 2 v l.length (l.map Ver.cells).flatten)∨(z=6∧v=.slice none 0 0))∧(∀ f:List Ver,(∀ c∈f,zax c)→f.length≤90000→itemsB f=true→s=zg verB f→z=0∧l=f)):=by
 have HP:=fun W=>hid (zhw W s (by omega) verB zaM (fun W' t ht _=>(zlu W' t (by omega)).mono fun en w' ⟨z1,z2,e,h1,h2,h3,h4,h5⟩=>⟨⟨z1,z2⟩,e,h1,⟨Int.natCast_nonneg _,by show(z1:Int)≤_;omega,Int.natCast_nonneg _,by show(z2:Int)≤_;omega⟩,h4,fun x0 a b=>by
  obtain⟨c,d⟩:=h5 x0 a b;exact⟨c.symm,d⟩⟩))
 have HPF:=fun W v l h h1 h2=>hid (zgP W v l h h1 h2);go_enter Tryz.func73,Tryz.ntmps73;go_wp2_with fail
 refine((HP _).out).mono ?_;rintro en w1 ⟨v,b,l,rfl,hrow,hl1,hg,x1,hb,hty⟩;have HLl:=hid hl1;have HRow:=hid hrow;have HTy:=hid hty;have X1:=hid x1;have HG:=hid hg;have HB:=hid hb;have HS:=hid (sameI_c w1 v s _ _ (fun W hW=>HPF W v l (hrow.1.ext hW) (by omega) (fun c hc=>zeT (hg c hc))));simp only[gotX hs] at HS;have HSs:=hid hs;clear hrow x1 hg hb HP HPF hs hl1 hty;go_wp2_with fail
 refine(HS.out).mono ?_;rintro en w2 ⟨rfl,x2⟩;have HRow2:=hid (HRow.out.ext x2);have HTy2:=hid (zw HTy.out x2);have X2:=hid (X1.out.trans x2);clear x2 X1 HRow HS;have HD:Hid (∀ f:List Ver,(∀ c∈f,zax c)→f.length≤90000→itemsB f=true→s=zg verB f→(itemsB l=true∧zg verB l=s)∧l=f):=fun f a8 a9 a0 a1=>by
  have hok:=zgf a0 a8;obtain rfl:=HB.out f hok (by omega) a1;exact⟨⟨a0,a1.symm⟩,rfl⟩
 by_cases hc:itemsB l=true∧zg verB l=s
 ·rw[if_pos hc,if_pos hc]
  have HC:=hid hc.1;have HE:=hid hc.2;clear hc HB;go_wp2_with fail
  go_ret2;exact⟨v,l,0,rfl,X2.out,.inl ⟨rfl,HC.out,HE.out,HRow2.out,HG.out,HLl.out,HTy2.out⟩,fun f a8 a9 a b=>⟨rfl,(HD.out f a8 a9 a b).2⟩⟩
 ·rw[if_neg hc,if_neg hc]
  have HN:=hid hc;clear hc HB;go_wp2_with fail
  go_ret2;exact⟨_,l,6,rfl,X2.out,.inr ⟨rfl,rfl⟩,fun f a8 a9 a b=>absurd (HD.out f a8 a9 a b).1 HN.out⟩
end
section
open Go.RowKit
def txC (s:ByteArray):List Value:=[.string s]
theorem tx_coded:Coded txC 1:=⟨fun _=>rfl,fun a u hu=>by simp[txC] at hu;rcases hu with rfl;rfl⟩
theorem zlm (w:World) (a b c:ByteArray):Sl (w.alloc (.cells #[.string a,.string b,.string c] 9)) 1 (.slice (some ⟨w.heap.size,0,none⟩) 3 3) ([a,b,c].map txC):=
 zam (xs:=[a,b,c].map txC) (tx_coded.sizes _) (zaH (Nat.le_refl _) 9 1 3 #[.string a,.string b,.string c] (by unfold maxLen;omega) rfl)
theorem sl_two (w:World) (a b:ByteArray):Sl (w.alloc (.cells #[.string a,.string b] 9)) 1 (.slice (some ⟨w.heap.size,0,none⟩) 2 2) ([a,b].map txC):=
 zam (xs:=[a,b].map txC) (tx_coded.sizes _) (zaH (Nat.le_refl _) 9 1 2 #[.string a,.string b] (by unfold maxLen;omega) rfl)
theorem zjU (a b:ByteArray):capL ([a,b].map fT)=capB (zO a++zO b):=by
 unfold capL
 congr 1
 apply ByteArray.ext;apply Array.ext';simp only[ByteArray.data_append,Array.toList_append,zV];simp[encL,fT,FldI.enc]
theorem zhi (a b c:ByteArray):capL ([a,b,c].map fT)=capB (zO a++zO b++zO c):=by
 unfold capL
 congr 1
 apply ByteArray.ext;apply Array.ext';simp only[ByteArray.data_append,Array.toList_append,zV];simp[encL,fT,FldI.enc]
theorem zcx (s:ByteArray):s.size<(zO s).size:=by
 have h1:(zO s).data.toList.length=(zO s).size:=by rw[Array.length_toList];rfl
 have h2:s.data.toList.length=s.size:=by rw[Array.length_toList];rfl
 rw[zV,List.length_append,h2] at h1;have:=zcg s.size;omega
theorem zeN {s:ByteArray} (h:65536<s.size):capB s=⟨#[]⟩:=if_neg (by omega)
theorem zd2 {s:ByteArray} (h:s.size≤65536):capB s=s:=if_pos h
theorem zkH (x:FragI):0<(zaR x).size:=by
 unfold zaR;rw[ByteArray.size_append];have:=zcx (zg verB x.n);omega
theorem ziX (x:KnownI):0<(zan x).size:=by
 unfold zan;rw[ByteArray.size_append];have:=zcx (zg verB (endsL x.v));omega
theorem zju (w:World) (v:Value) (l:List ByteArray) (e:Int) (h:Sl w 1 v (l.map txC)) (hl:l.length≤100) (hp:0<l.length) (hs:∀ s∈l,s.size≤65536) (R:ByteArray) (hyes:e=0→(∀ s∈l,s.size≠0)→capL (l.map fT)=R) (hno:(e≠0 ∨ ∃ s∈l,s.size=0)→(⟨#[]⟩:ByteArray)=R):Calls Tryz.prog 153 #[.int .i64 e,v] w (Ret (.string R) w):=by
 obtain⟨A,c,rfl,h1,h2,h3⟩:=zr h;unfold maxLen at h2;have HT:=fun W s=>hid (fT_c W s);have HYes:=hid hyes;have HNo:=hid hno;have HP:=fun W u (h:Sl W 3 u ((l.map fT).map FldI.cells))=>hid (zeH W u (l.map fT) h (fun f hf=>by
  obtain⟨x,hx,rfl⟩:=List.mem_map.1 hf;exact⟨hs x hx,fun h=>(by(have h:true=false:=h);cases h),by show(0:Int)≤_;omega⟩) (by rw[List.length_map];exact hp))
 have H3:=hid h3;have HLp:=hid hp;clear h h3 hs hyes hno hp;go_enter Tryz.func153,Tryz.ntmps153;go_wp2_with fail
 go_loopw [5,10] (fun s5 s10 wr=>∃ (k:Nat) (ov:Value),ov=s5∧k≤l.length∧s10=.int .i64 k∧Hid (Ext w wr)∧Hid (∀ s∈l.take k,s.size≠0)∧Hid (k≠0→e=0)∧Hid (OwnF ((l.take k).map fT) w.heap.size s5 wr)) (fun _ s10 _=>l.length-(intOf s10).toNat)
 case atStart=>exact⟨0,_,rfl,by omega,rfl,Ext.refl _,(fun s hs=>by simp at hs),(fun h=>absurd rfl h),zp _ _ _ _⟩
 case round=>
  obtain⟨k,s5,rfl,hk,rfl,hE,hFl,hE0,hO⟩:=hrel;by_cases hlt:k<l.length
  ·have d1:decide ((k:Int)<l.length)=true:=decide_eq_true (by omega)
   have d1':decide (k<l.length)=true:=decide_eq_true hlt;obtain⟨b,o,rfl,lb,hcell⟩:=H3.out (by omega);have c0:=hE.out.cell (hcell k hlt 0 _ rfl);rw[Nat.mul_one,Nat.add_zero] at c0;have lbr:=Nat.lt_of_lt_of_le lb hE.out.size;have HM:Hid ((l.take (k+1)).map fT=(l.take k).map fT++[fT l[k]]):=by
    unfold Hid;rw[List.take_succ_eq_append_getElem hlt,List.map_append];rfl
   have HNe:Hid (l[k].size=0→(⟨#[]⟩:ByteArray)=R):=fun h9=>HNo.out (.inr ⟨_,List.getElem_mem hlt,h9⟩);have HNe2:Hid (e≠0→(⟨#[]⟩:ByteArray)=R):=fun h9=>HNo.out (.inl h9);have HFn:Hid (l[k].size≠0 → ∀ s∈l.take (k+1),s.size≠0):=fun h9 x hx=>by
    rw[List.take_succ_eq_append_getElem hlt] at hx;rcases List.mem_append.1 hx with hx | hx
    ·exact hFl.out x hx
    ·rw[List.mem_singleton.1 hx];exact h9
   have hlen:((l.take k).map fT).length≤100000:=by rw[List.length_map,List.length_take];omega
   clear H3 hcell HP hFl hE0 HYes HNo;generalize hacc1:(l.take (k+1)).map fT=acc1 at HM;have HA1:=hid hacc1;clear hacc1;generalize hacc:(l.take k).map fT=acc at hO HM hlen;clear hacc;generalize l[k]=x at c0 HM HNe HFn;by_cases hx:x.size=0
   ·have hR:=hid (HNe.out hx)
    have hx':x=⟨#[]⟩:=ByteArray.ext (Array.eq_empty_of_size_eq_zero hx);subst hx';clear hx HNe HNe2 HFn HM HA1 HT;go_wp2_with fail
    go_ret;exact⟨by rw[←hR.out];try rfl,hE.out⟩
   ·have HFn:=hid (HFn.out hx)
    have d0:x.toList.isEmpty=false:=by
     cases h:x.toList.isEmpty with
     | false=>rfl
     | true=>rw[←zcc,List.isEmpty_iff.1 h] at hx;exact absurd rfl hx
    clear hx HNe;by_cases he:e=0
    ·have d2:(e != 0)=false:=by simp[he]
     have HE0:=hid he;clear he HNe2;go_wp2_with fail
     refine((HT _ _).out).mono ?_;rintro en w4 ⟨rfl,x4⟩;have hO4:=hid (hO.out.ext x4);have hE4:=hid (hE.out.trans x4);clear x4 hO hE c0 lb lbr;obtain⟨v',w6,hrun6,ho6,hk6,_⟩:=zaJ (P:=Tryz.prog) zbF fld_coded hO4.out hE4.out.size (fT x) (by omega) (by omega);simp only[FldI.cells,fT] at hrun6;have HE6:=hid (hk6.toExt hE4.out (fun q hq=>(zt hO4.out q hq).1));have HO6:Hid (OwnF acc1 w.heap.size v' w6):=by
      rw[HM.out];exact ho6
     clear ho6 hk6;go_wp2_with (at_builtin;refine zx rfl (.tmp 20) (.tmp 23) _ _ rfl rfl rfl hrun6 ?_)
     go_roundw
     case rel=>exact⟨k+1,_,rfl,by omega,by go_num,HE6,HFn.out,fun _=>HE0.out,by rw[HA1.out];exact HO6⟩
     case measure=>simp[intOf];omega
    ·have d2:(e != 0)=true:=by simp[he]
     have hR:=hid (HNe2.out he);clear he HNe2 HM HA1 HT;go_wp2_with fail
     go_ret;exact⟨by rw[←hR.out];try rfl,hE.out⟩
  ·obtain rfl:k=l.length:=by omega
   rw[List.take_length] at hO hFl;have HS:=hid hO.out.sl;have hR:=hid (HYes.out (hE0.out (by have:=HLp.out;omega)) hFl.out);clear hlt hk H3 HYes HNo hO HT hE0 hFl HLp;generalize capL (l.map fT)=r at HP hR;go_wp2_with fail
   refine((HP _ _ HS.out).out).mono ?_;rintro en w7 ⟨rfl,x7⟩;have HE7:=hid (hE.out.trans x7);clear x7;go_wp2_with fail
   go_ret;exact⟨by rw[hR.out];try rfl,HE7.out⟩
structure FragOk (x:FragI):Prop where
 v:zaA x.v
 n:∀ y∈x.n,zax y
 l:x.n.length≤90000
attribute [-simp] Tryz.isAgg33 Tryz.sizeOf33
theorem frag_c (w:World) (c:FragC) (x:FragI) (m:Int) (hm:w.cell? ⟨0,0,none⟩=some (.int .i64 m)) (hx:FragAt w c x) (hok:FragOk x) (hmay:mayF x=true):Calls Tryz.prog 155 #[.agg c.arr] w (Ret (.string (capB (zaR x))) w):=by
 unfold mayF at hmay;simp only[Bool.and_eq_true] at hmay;obtain⟨m1,m2,m3⟩:=hmay;obtain⟨e1,sf,sn⟩:=hx;have hvl:x.v.length=65:=by rw[←e1];exact c.hv
 have HPf:=fun W (hW:Ext w W)=>hid (ziK W _ x.f m (hW.cell hm) (sf.ext hW) (fun y hy=>by have:=((zcq m1).2 y hy).pre;omega));have HPv:=fun W=>hid (zfb W x.v hvl hok.v);have HPn:=fun W (hW:Ext w W)=>hid (zgP W _ x.n (sn.ext hW) hok.l hok.n);rw[m1] at HPf;rw[m2] at HPv;rw[m3] at HPn;rw[show putB true (zg clB x.f)=zg clB x.f from rfl,show okZ true=0 from rfl] at HPf;rw[show putB true (zg verB (endsL x.v))=zg verB (endsL x.v) from rfl,show okZ true=0 from rfl] at HPv;have hF1:=zdu m1;have hF0:=zbf clB x.f;have hV1:(zg verB (endsL x.v)).size≤65536:=by
  have:=zb6 verB (endsL x.v) 18 65 (by decide) (zbU x.v) (by decide) (fun y hy=>zbd (zbG hok.v y hy));rw[za9];omega
 have hV0:=zbf verB (endsL x.v);have hN0:=zbf verB x.n;have hF:=hid (show zaR x=zO (zg clB x.f)++zO (zg verB (endsL x.v))++zO (zg verB x.n) from rfl);generalize hr:zaR x=R at hF⊢;clear hr;have HB:=hid (Blk.new w 85 c.arr);have HE0:=hid (Ext.alloc w (.cells c.arr 85));have HF0:Hid ((c.arr)[0]? = some c.f.val):=by unfold Hid FragC.arr;rw[List.getElem?_toArray];exact fragC_f _
 have HF66:Hid ((c.arr)[66]? = some c.n.val):=by unfold Hid FragC.arr;rw[List.getElem?_toArray];exact zdS _
 have HFv:=hid (fun j v (h:(vecV c.v)[j]? = some v)=>(show(c.arr)[1+j]? = some v by unfold FragC.arr;rw[List.getElem?_toArray];exact zdR c j v h));have hz1:=hid (show(vecV c.v).size=65 by rw[ze];exact c.hv);rw[e1] at HFv hz1;generalize c.arr=arr at HB HE0 HF0 HF66 HFv⊢;obtain⟨⟨f1,f2,f3⟩,_,⟨n1,n2,n3⟩,_⟩:=c;simp only[SlV.val] at HF0 HF66 HPf HPn;generalize zg clB x.f=F at HPf hF hF1 hF0;generalize zg verB (endsL x.v)=V at HPv hF hV1 hV0;generalize zg verB x.n=N at HPn hF hN0;generalize vecV x.v=X at HFv hz1 HPv;have HR:Hid ((N.size≤65536→capL ([F,V,N].map fT)=capB R)∧(¬ N.size≤65536→capB R=⟨#[]⟩)):=by
  refine⟨fun _=>by rw[zhi,hF.out],fun h9=>zeN ?_⟩;rw[hF.out,ByteArray.size_append];have:=zcx N;omega
 generalize capB R=R2 at HR⊢;have HTx:∀ (W:World) (n':ByteArray) (z:Int),(N.size≤65536∧n'=N∧z=0∨¬ N.size≤65536∧n'=⟨#[]⟩∧z=4)→Hid (Calls Tryz.prog 153 #[.int .i64 z,.slice (some ⟨W.heap.size,0,none⟩) 3 3] (W.alloc (.cells #[.string F,.string V,.string n'] 9)) (Ret (.string R2) (W.alloc (.cells #[.string F,.string V,.string n'] 9)))):=fun W n' z hz=>by
  refine zju _ _ [F,V,n'] z (zlm W F V n') (by simp) (by simp) (fun s hs=>?_) R2 (fun h0 _=>?_) (fun h0=>?_)
  ·simp only[List.mem_cons,List.not_mem_nil,or_false] at hs
   rcases hs with rfl | rfl | rfl
   ·omega
   ·exact hV1
   ·rcases hz with⟨h1,rfl,_⟩ | ⟨_,rfl,_⟩
    ·exact h1
    ·exact Nat.zero_le _
  ·rcases hz with⟨h1,rfl,_⟩ | ⟨_,_,rfl⟩
   ·exact HR.out.1 h1
   ·cases h0
  ·rcases hz with⟨h1,rfl,rfl⟩ | ⟨h1,_,_⟩
   ·exfalso
    rcases h0 with h0 | ⟨s,hs,h0⟩
    ·exact h0 rfl
    ·simp only[List.mem_cons,List.not_mem_nil,or_false] at hs
     rcases hs with rfl | rfl | rfl
     ·exact hF0 h0
     ·exact hV0 h0
     ·exact hN0 h0
   ·exact(HR.out.2 h1).symm
 obtain⟨n',z,hz,hpx,hex⟩:∃ (n':ByteArray) (z:Int),(N.size≤65536∧n'=N∧z=0∨¬ N.size≤65536∧n'=⟨#[]⟩∧z=4)∧putX true N=n'∧errX true N=z:=by
  by_cases h9:N.size≤65536
  ·exact⟨N,0,.inl ⟨h9,rfl,rfl⟩,zdH (zbg.2 ⟨rfl,h9⟩),zbg.2 ⟨rfl,h9⟩⟩
  ·exact⟨⟨#[]⟩,4,.inr ⟨h9,rfl,rfl⟩,by unfold putX;rw[if_pos rfl];exact if_neg h9,by unfold errX;rw[if_pos rfl];exact if_neg h9⟩
 rw[hpx,hex] at HPn;have HTx:=fun W=>HTx W n' z hz;have hz9:z=0∨z=4:=by rcases hz with⟨_,_,h⟩ | ⟨_,_,h⟩ <;> simp[h]
 clear hz hpx hex HR hF hm m1 m2 m3 e1 sf sn hok hF1 hF0 hV1 hV0 hN0 hvl;rcases hz9 with hz9 | hz9
 ·subst hz9
  have c0:=HB.out.cell HF0.out;have bl:=HB.out.lt;go_enter Tryz.func155,Tryz.ntmps155;go_wp2_with fail
  refine((HPf _ HE0.out).out).mono ?_;rintro en w1 ⟨rfl,x1⟩;have HB1:=hid (HB.out.ext x1);have HE1:=hid (HE0.out.trans x1);clear c0 bl x1 HB HE0 HPf HF0;have HV1:=hid (fun j v (h:X[j]? = some v)=>HB1.out.cell (HFv.out j v h));go_wp2_with fail
  simp only[Tryz.sizeOf33,Result.andThen];rw[if_neg (show ¬ (65:Nat)=0 by omega)];dsimp only;rw[Oper.upon_value];go_wp2_with fail
  simp only[Tryz.isAgg33,Tryz.sizeOf33,Result.andThen,↓reduceIte,zo HV1.out 65 hz1.out];rw[Oper.upon_value];go_wp2_with fail
  refine((HPv _).out).mono ?_;rintro en w2 ⟨rfl,x2⟩;have HB2:=hid (HB1.out.ext x2);have HE2:=hid (HE1.out.trans x2);have c66:=HB2.out.cell HF66.out;have bl:=HB2.out.lt;clear x2 HB1 HE1 HPv HF66 HV1 HFv;go_wp2_with fail
  refine((HPn _ HE2.out).out).mono ?_;rintro en w3 ⟨rfl,x3⟩;have HE3:=hid (HE2.out.trans x3);clear x3 c66 bl HB2 HE2 HPn;go_wp2_with fail
  refine((HTx _).out).mono ?_;rintro en w4 ⟨rfl,x4⟩;have HE4:=hid (HE3.out.trans ((Ext.alloc _ _).trans x4));clear x4 HE3 HTx;go_wp2_with fail
  go_ret;exact⟨rfl,HE4.out⟩
 ·subst hz9
  have c0:=HB.out.cell HF0.out;have bl:=HB.out.lt;go_enter Tryz.func155,Tryz.ntmps155;go_wp2_with fail
  refine((HPf _ HE0.out).out).mono ?_;rintro en w1 ⟨rfl,x1⟩;have HB1:=hid (HB.out.ext x1);have HE1:=hid (HE0.out.trans x1);clear c0 bl x1 HB HE0 HPf HF0;have HV1:=hid (fun j v (h:X[j]? = some v)=>HB1.out.cell (HFv.out j v h));go_wp2_with fail
  simp only[Tryz.sizeOf33,Result.andThen];rw[if_neg (show ¬ (65:Nat)=0 by omega)];dsimp only;rw[Oper.upon_value];go_wp2_with fail
  simp only[Tryz.isAgg33,Tryz.sizeOf33,Result.andThen,↓reduceIte,zo HV1.out 65 hz1.out];rw[Oper.upon_value];go_wp2_with fail
  refine((HPv _).out).mono ?_;rintro en w2 ⟨rfl,x2⟩;have HB2:=hid (HB1.out.ext x2);have HE2:=hid (HE1.out.trans x2);have c66:=HB2.out.cell HF66.out;have bl:=HB2.out.lt;clear x2 HB1 HE1 HPv HF66 HV1 HFv;go_wp2_with fail
  refine((HPn _ HE2.out).out).mono ?_;rintro en w3 ⟨rfl,x3⟩;have HE3:=hid (HE2.out.trans x3);clear x3 c66 bl HB2 HE2 HPn;go_wp2_with fail
  refine((HTx _).out).mono ?_;rintro en w4 ⟨rfl,x4⟩;have HE4:=hid (HE3.out.trans ((Ext.alloc _ _).trans x4));clear x4 HE3 HTx;go_wp2_with fail
  go_ret;exact⟨rfl,HE4.out⟩
structure KnownOk (x:KnownI):Prop where
 v:zaA x.v
 i:zax x.i
theorem zgV {x:KnownI} (hok:KnownOk x) (h:mayN x=true):zaM x.i∧x.v=cleanL x.v:=by
 unfold mayN at h;simp only[Bool.and_eq_true,decide_eq_true_eq] at h;obtain⟨h1,h2⟩:=h;unfold zD at h1;rw[decide_eq_true_eq] at h1;have:=hok.i;unfold zax in64 at this;exact⟨by unfold zaM;omega,h2⟩
theorem zkw {x:KnownI} (h:zaM x.i):(⟨(encL [fN x.i.by_,fN x.i.n,fT (zg verB (endsL x.v))]).toArray⟩:ByteArray)=zan x:=by
 apply ByteArray.ext;apply Array.ext';unfold zan verB;simp only[ByteArray.data_append,Array.toList_append,zV,zu h.1,zu h.2.2.1];simp[encL,fT,fN,FldI.enc]
theorem zgd {x:KnownI} (hok:KnownOk x) (h:zaM x.i):(zan x).size≤3000:=by
 have h1:(zg verB (endsL x.v)).size≤2000:=by
  have:=zb6 verB (endsL x.v) 18 65 (by decide) (zbU x.v) (by decide) (fun y hy=>zbd (zbG hok.v y hy));rw[za9];omega
 have h2:=zbm (zg verB (endsL x.v)) (by omega);have h3:=zbd h;unfold zan;rw[ByteArray.size_append];omega
theorem known_c (w:World) (x:KnownI) (hok:KnownOk x) (hmay:mayN x=true):Calls Tryz.prog 157 #[.agg x.arr] w (Ret (.string (zan x)) w):=by
 obtain⟨hi,hcl⟩:=zgV hok hmay;have hmay1:zD x.i=true:=by unfold mayN at hmay;simp only[Bool.and_eq_true] at hmay;exact hmay.1
 have HPv:=fun W=>hid (zfb W x.v x.hv hok.v);rw[decide_eq_true hcl] at HPv;rw[show putB true (zg verB (endsL x.v))=zg verB (endsL x.v) from rfl,show okZ true=0 from rfl] at HPv;have hV1:(zg verB (endsL x.v)).size≤65536:=by
  have:=zb6 verB (endsL x.v) 18 65 (by decide) (zbU x.v) (by decide) (fun y hy=>zbd (zbG hok.v y hy));rw[za9];omega
 have HVr:=fun W=>hid (zbx x.i W);rw[zbW hmay1] at HVr;have HVe:=fun W=>hid (zgO W x.i);have HT:=fun W s=>hid (fT_c W s);unfold Ver.val at HVr HVe;have henc:=zkw hi;have hle:(encL [fN x.i.by_,fN x.i.n,fT (zg verB (endsL x.v))]).length≤65536:=by
  have h1:=zgd hok hi;rw[←henc] at h1;have h2:(⟨(encL [fN x.i.by_,fN x.i.n,fT (zg verB (endsL x.v))]).toArray⟩:ByteArray).size=(encL [fN x.i.by_,fN x.i.n,fT (zg verB (endsL x.v))]).length:=rfl;omega
 have HP:=fun W u (h:Sl W 3 u ([fN x.i.by_,fN x.i.n,fT (zg verB (endsL x.v))].map FldI.cells))=>hid (zdt W u [fN x.i.by_,fN x.i.n,fT (zg verB (endsL x.v))] h (fun f hf=>by
  obtain⟨a1,a2,a3,a4⟩:=hi;simp only[List.mem_cons,List.not_mem_nil,or_false] at hf;rcases hf with rfl | rfl | rfl
  ·exact⟨Nat.zero_le _,fun _=>a1,a2⟩
  ·exact⟨Nat.zero_le _,fun _=>a3,a4⟩
  ·exact⟨hV1,fun h=>(by(have h:true=false:=h);cases h),by show(0:Int)≤_;omega⟩) (by simp) hle)
 rw[henc] at HP;have HB:=hid (Blk.new w 126 x.arr);have HE0:=hid (Ext.alloc w (.cells x.arr 126));have HF0:Hid ((x.arr)[0]? = some (.int .i64 x.i.by_)):=rfl;have HF1:Hid ((x.arr)[1]? = some (.int .i64 x.i.n)):=rfl;have HFv:=hid (fun q v (h:(vecV x.v)[q]? = some v)=>(show(x.arr)[2+q]? = some v by unfold KnownI.arr;rw[List.getElem?_toArray];exact zjG x q v h));have hz1:=hid (show(vecV x.v).size=65 by rw[ze];exact x.hv);generalize zan x=R at HP⊢;generalize x.arr=arr at HB HE0 HF0 HF1 HFv⊢;generalize zg verB (endsL x.v)=V at HPv HP;generalize vecV x.v=X at HFv hz1 HPv;clear henc hle hV1 hi hcl hmay1 hok hmay
 have HV1:=hid (fun j v (h:X[j]? = some v)=>HB.out.cell (HFv.out j v h));have bl:=HB.out.lt;go_enter Tryz.func157,Tryz.ntmps157;go_wp2_with fail
 simp only[Tryz.sizeOf33,Result.andThen];rw[if_neg (show ¬ (65:Nat)=0 by omega)];dsimp only;rw[Oper.upon_value];go_wp2_with fail
 simp only[Tryz.isAgg33,Tryz.sizeOf33,Result.andThen,↓reduceIte,zo HV1.out 65 hz1.out];rw[Oper.upon_value];go_wp2_with fail
 refine((HPv _).out).mono ?_;rintro en w2 ⟨rfl,x2⟩;have HB2:=hid (HB.out.ext x2);have HE2:=hid (HE0.out.trans x2);clear x2 HB HE0 HPv HV1 HFv bl;have c0:=HB2.out.cell HF0.out;have c1:=HB2.out.cell HF1.out;have bl:=HB2.out.lt;go_wp2_with fail
 refine((HVr _).out).mono ?_;rintro en w3 ⟨rfl,x3⟩;have HB3:=hid (HB2.out.ext x3);have HE3:=hid (HE2.out.trans x3);clear x3 c0 c1 bl HB2 HE2 HVr;have c0:=HB3.out.cell HF0.out;have c1:=HB3.out.cell HF1.out;have bl:=HB3.out.lt;go_wp2_with fail
 refine((HVe _).out).mono ?_;rintro en w4 ⟨u,rfl,⟨ho,q,rfl⟩,x4⟩;have HO4:=hid (ho.weak HE3.out.size);have HE4:=hid (HE3.out.trans x4);clear x4 c0 c1 bl HB3 HE3 HVe ho HF0 HF1;go_wp2_with fail
 refine((HT _ _).out).mono ?_;rintro en w5 ⟨rfl,x5⟩;have HO5:=hid (HO4.out.ext x5);have HE5:=hid (HE4.out.trans x5);clear x5 HO4 HE4 HT;obtain⟨v',w6,hrun6,ho6,hk6,_⟩:=zaJ (P:=Tryz.prog) zbF fld_coded HO5.out HE5.out.size (fT V) (by simp) (by decide);simp only[FldI.cells,fT,List.length_cons,List.length_nil] at hrun6;have HE6:=hid (hk6.toExt HE5.out (fun q hq=>(zt HO5.out q hq).1));have HS6:Hid (Sl w6 3 v' ([fN x.i.by_,fN x.i.n,fT V].map FldI.cells)):=OwnF.sl (l:=[fN x.i.by_,fN x.i.n,fT V]) ho6;clear ho6 hk6 HO5 HE5;go_wp2_with (at_builtin;refine zx rfl (.tmp 21) (.tmp 24) _ _ rfl rfl rfl hrun6 ?_)
 refine((HP _ _ HS6.out).out).mono ?_;rintro en w7 ⟨rfl,x7⟩;have HE7:=hid (HE6.out.trans x7);clear x7 HS6 HE6;go_wp2_with fail
 go_ret;exact⟨rfl,HE7.out⟩
end
section
open Go.RowKit
attribute [-simp] Tryz.isAgg85 Tryz.sizeOf85 Tryz.isAgg126 Tryz.sizeOf126
theorem zlX (w:World) (v:Value) (l:List (FragC×FragI)) (enc:(FragC×FragI)→ByteArray) (h:Sl w 67 v (l.map (fun z:FragC×FragI=>z.1.list))) (hl:l.length≤100000) (hone:∀ x∈l,∀ W,Ext w W→Calls Tryz.prog 155 #[.agg x.1.arr] W (Ret (.string (capB (enc x))) W)) (hpos:∀ x∈l,0<(enc x).size):Calls Tryz.prog 154 #[v,.func (.func 155) #[] #[]] w (Ret (.string (capB (zg enc l))) w):=by
 obtain⟨A,c,rfl,h1,h2,h3⟩:=zr h;unfold maxLen at h2;have HN:=fun W n=>hid (fN_c W n);have HT:=fun W s=>hid (fT_c W s);have HOne:=hid hone;have HPos:=hid hpos;have HBig:=hid (fun x (hx:x∈l) (hb:¬ (enc x).size≤65536)=>zer hx hb);have HP:=fun(hfit:∀ x∈l,(enc x).size≤65536) W u (h:Sl W 3 u ((fN l.length::l.map (fun x=>fT (enc x))).map FldI.cells))=>hid (zeH W u (fN l.length::l.map (fun x=>fT (enc x))) h (fun f hf=>by
  rcases List.mem_cons.1 hf with rfl | hf
  ·exact⟨Nat.zero_le _,fun _=>Int.natCast_nonneg _,by show(l.length:Int)≤_;omega⟩
  ·obtain⟨x,hx,rfl⟩:=List.mem_map.1 hf
   exact⟨hfit x hx,fun h=>(by(have h:true=false:=h);cases h),by show(0:Int)≤_;omega⟩) (by simp))
 have e9:capL (fN l.length::l.map (fun x=>fT (enc x)))=capB (zg enc l):=rfl;rw[e9] at HP;generalize capB (zg enc l)=R at HP HBig⊢;have H3:=hid h3;clear h h3 hone hpos e9;go_enter Tryz.func154,Tryz.ntmps154;go_wp2_with fail
 refine((HN _ _).out).mono ?_;rintro en w1 ⟨rfl,x1⟩;have HE1:=hid x1;clear x1;have HF0:Hid (OwnF [fN l.length] w.heap.size (.slice (some ⟨w1.heap.size,0,none⟩) 1 1) (w1.alloc (.cells #[.int .i64 l.length,.string ⟨#[]⟩,.bool false] 140))):=zaH HE1.out.size 140 3 1 #[.int .i64 l.length,.string ⟨#[]⟩,.bool false] (by unfold maxLen;omega) rfl;have HE2:=hid (HE1.out.alloc' (.cells #[.int .i64 l.length,.string ⟨#[]⟩,.bool false] 140));go_wp2_with fail
 generalize w1.alloc (.cells #[.int .i64 l.length,.string ⟨#[]⟩,.bool false] 140)=w2 at HF0 HE2⊢;obtain⟨v0,hv0⟩:∃ v0,v0=Value.slice (some ⟨w1.heap.size,0,none⟩) 1 1:=⟨_,rfl⟩
 go_loopw [5,15] (fun s5 s15 wr=>∃ (k:Nat) (ov:Value),ov=s5∧k≤l.length∧s15=.int .i64 k∧Hid (Ext w wr)∧Hid (∀ x∈l.take k,(enc x).size≤65536)∧Hid (OwnF (fN l.length::(l.take k).map (fun x=>fT (enc x))) w.heap.size s5 wr)) (fun _ s15 _=>l.length-(intOf s15).toNat)
 case atStart=>exact⟨0,_,rfl,by omega,rfl,HE2,fun x hx=>by simp at hx,HF0⟩
 case round=>
  obtain⟨k,s5,rfl,hk,rfl,hE,hFit,hO⟩:=hrel;clear HF0 HE2 HE1 hv0 HN;by_cases hlt:k<l.length
  ·have d1:decide ((k:Int)<l.length)=true:=decide_eq_true (by omega)
   have d1':decide (k<l.length)=true:=decide_eq_true hlt;obtain⟨b,o,rfl,lb,hcell⟩:=H3.out (by omega);have HG:=hid (fun j u (hu:(l[k].1.arr)[j]? = some u)=>hE.out.cell (hcell k hlt j u (by unfold FragC.arr at hu;simpa using hu)));have hzs:=hid (zbT l[k].1);have HOn:=hid (zbS l[k].1);have lbr:=Nat.lt_of_lt_of_le lb hE.out.size;have HM:Hid ((l.take (k+1)).map (fun x=>fT (enc x))=(l.take k).map (fun x=>fT (enc x))++[fT (enc l[k])]):=by
    unfold Hid;rw[List.take_succ_eq_append_getElem hlt,List.map_append];rfl
   have HC:=HOne.out l[k] (List.getElem_mem hlt);have hp:=(HPos.out l[k] (List.getElem_mem hlt))
   have HBk:=hid (HBig.out l[k] (List.getElem_mem hlt));have HFt:Hid ((enc l[k]).size≤65536 → ∀ x∈l.take (k+1),(enc x).size≤65536):=fun h9 x hx=>by
    rw[List.take_succ_eq_append_getElem hlt] at hx;rcases List.mem_append.1 hx with hx | hx
    ·exact hFit.out x hx
    ·rw[List.mem_singleton.1 hx];exact h9
   have hlen:((l.take k).map (fun x=>fT (enc x))).length≤100000:=by rw[List.length_map,List.length_take];omega
   clear H3 hcell HOne HPos HP HBig hFit;generalize hacc1:(l.take (k+1)).map (fun x=>fT (enc x))=acc1 at HM;have HA1:=hid hacc1;clear hacc1;generalize hacc:(l.take k).map (fun x=>fT (enc x))=acc at hO HM hlen;clear hacc;generalize l[k]=x at HG hzs HOn HC HM hp HBk HFt;by_cases hfit:(enc x).size≤65536
   ·have hcap:capB (enc x)=enc x:=if_pos hfit
    rw[hcap] at HC;have HFt:=hid (HFt.out hfit);have d0:(enc x).toList.isEmpty=false:=by
     cases h:(enc x).toList.isEmpty with
     | false=>rfl
     | true=>rw[←zcc,List.isEmpty_iff.1 h] at hp;exact absurd hp (by decide)
    clear hp hfit hcap HBk;generalize enc x=r at HC HM d0;generalize x.1.arr=arr at HG hzs HOn HC;go_wp2_with fail
    simp only[Tryz.sizeOf85,Result.andThen];rw[Oper.upon_value];go_wp2_with fail
    simp only[Tryz.isAgg85,Tryz.sizeOf85,Result.andThen,↓reduceIte,zo HG.out 67 hzs.out];rw[Oper.upon_value];go_wp2_with fail
    have HB3:=hid (Blk.new wr 85 fragZ);simp only[Tryz.sizeOf85,Result.andThen,↓reduceIte,zb HB3.out (by rw[hzs.out];exact zbv) (by rw[hzs.out,zaW]) HOn.out,hzs.out];rw[Oper.upon_skip];rw[World.setRow_alloc_new];have HB2:=hid (Blk.new wr 85 arr);have X2:=hid (Ext.alloc wr (.cells arr 85));clear HB3 HG HOn;go_wp2_with fail
    generalize wr.alloc (.cells arr 85)=w2 at HB2 X2⊢;simp only[Tryz.isAgg85,Tryz.sizeOf85,Result.andThen,↓reduceIte,za HB2.out 67 hzs.out];rw[Oper.upon_value];go_wp2_with fail
    refine(HC _ (hE.out.trans X2.out)).mono ?_;rintro en w3 ⟨rfl,x3⟩;have hO3:=hid (hO.out.ext (X2.out.trans x3));have hE3:=hid (hE.out.trans (X2.out.trans x3));clear x3 lbr lb hE hO HC HB2 X2;go_wp2_with fail
    refine((HT _ _).out).mono ?_;rintro en w4 ⟨rfl,x4⟩;have hO4:=hid (hO3.out.ext x4);have hE4:=hid (hE3.out.trans x4);clear x4 hO3 hE3;obtain⟨v',w6,hrun6,ho6,hk6,_⟩:=zaJ (P:=Tryz.prog) zbF fld_coded hO4.out hE4.out.size (fT r) (by simp;omega) (by omega);simp only[FldI.cells,fT] at hrun6;have HE6:=hid (hk6.toExt hE4.out (fun q hq=>(zt hO4.out q hq).1));have HO6:Hid (OwnF (fN l.length::acc1) w.heap.size v' w6):=by
     rw[HM.out];exact ho6
    clear ho6 hk6;go_wp2_with (at_builtin;refine zx rfl (.tmp 24) (.tmp 27) _ _ rfl rfl rfl hrun6 ?_)
    go_roundw
    case rel=>exact⟨k+1,_,rfl,by omega,by go_num,HE6,HFt.out,by rw[HA1.out];exact HO6⟩
    case measure=>simp[intOf];omega
   ·have hcap:capB (enc x)=⟨#[]⟩:=if_neg hfit
    rw[hcap] at HC;have HR:=hid (HBk.out hfit);clear hp hfit hcap HBk HFt HM HA1 HT;generalize x.1.arr=arr at HG hzs HOn HC;go_wp2_with fail
    simp only[Tryz.sizeOf85,Result.andThen];rw[Oper.upon_value];go_wp2_with fail
    simp only[Tryz.isAgg85,Tryz.sizeOf85,Result.andThen,↓reduceIte,zo HG.out 67 hzs.out];rw[Oper.upon_value];go_wp2_with fail
    have HB3:=hid (Blk.new wr 85 fragZ);simp only[Tryz.sizeOf85,Result.andThen,↓reduceIte,zb HB3.out (by rw[hzs.out];exact zbv) (by rw[hzs.out,zaW]) HOn.out,hzs.out];rw[Oper.upon_skip];rw[World.setRow_alloc_new];have HB2:=hid (Blk.new wr 85 arr);have X2:=hid (Ext.alloc wr (.cells arr 85));clear HB3 HG HOn;go_wp2_with fail
    generalize wr.alloc (.cells arr 85)=w2 at HB2 X2⊢;simp only[Tryz.isAgg85,Tryz.sizeOf85,Result.andThen,↓reduceIte,za HB2.out 67 hzs.out];rw[Oper.upon_value];go_wp2_with fail
    refine(HC _ (hE.out.trans X2.out)).mono ?_;rintro en w3 ⟨rfl,x3⟩;have hE3:=hid (hE.out.trans (X2.out.trans x3));clear x3 lbr lb hE hO HC HB2 X2;go_wp2_with fail
    go_ret;exact⟨by rw[HR.out];try rfl,hE3.out⟩
  ·obtain rfl:k=l.length:=by omega
   rw[List.take_length] at hO hFit;have HS:=hid hO.out.sl;have HP':=HP hFit.out;clear hlt hk H3 HOne HPos hO HT HP HBig;go_wp2_with fail
   refine((HP' _ _ HS.out).out).mono ?_;rintro en w7 ⟨rfl,x7⟩;have HE7:=hid (hE.out.trans x7);clear x7;go_wp2_with fail
   go_ret;exact⟨rfl,HE7.out⟩
theorem zlW (w:World) (v:Value) (l:List KnownI) (enc:KnownI→ByteArray) (h:Sl w 67 v (l.map KnownI.list)) (hl:l.length≤100000) (hone:∀ x∈l,∀ W,Ext w W→Calls Tryz.prog 157 #[.agg x.arr] W (Ret (.string (capB (enc x))) W)) (hpos:∀ x∈l,0<(enc x).size):Calls Tryz.prog 156 #[v,.func (.func 157) #[] #[]] w (Ret (.string (capB (zg enc l))) w):=by
 obtain⟨A,c,rfl,h1,h2,h3⟩:=zr h;unfold maxLen at h2;have HN:=fun W n=>hid (fN_c W n);have HT:=fun W s=>hid (fT_c W s);have HOne:=hid hone;have HPos:=hid hpos;have HBig:=hid (fun x (hx:x∈l) (hb:¬ (enc x).size≤65536)=>zer hx hb);have HP:=fun(hfit:∀ x∈l,(enc x).size≤65536) W u (h:Sl W 3 u ((fN l.length::l.map (fun x=>fT (enc x))).map FldI.cells))=>hid (zeH W u (fN l.length::l.map (fun x=>fT (enc x))) h (fun f hf=>by
  rcases List.mem_cons.1 hf with rfl | hf
  ·exact⟨Nat.zero_le _,fun _=>Int.natCast_nonneg _,by show(l.length:Int)≤_;omega⟩
  ·obtain⟨x,hx,rfl⟩:=List.mem_map.1 hf
   exact⟨hfit x hx,fun h=>(by(have h:true=false:=h);cases h),by show(0:Int)≤_;omega⟩) (by simp))
 have e9:capL (fN l.length::l.map (fun x=>fT (enc x)))=capB (zg enc l):=rfl;rw[e9] at HP;generalize capB (zg enc l)=R at HP HBig⊢;have H3:=hid h3;clear h h3 hone hpos e9;go_enter Tryz.func156,Tryz.ntmps156;go_wp2_with fail
 refine((HN _ _).out).mono ?_;rintro en w1 ⟨rfl,x1⟩;have HE1:=hid x1;clear x1;have HF0:Hid (OwnF [fN l.length] w.heap.size (.slice (some ⟨w1.heap.size,0,none⟩) 1 1) (w1.alloc (.cells #[.int .i64 l.length,.string ⟨#[]⟩,.bool false] 140))):=zaH HE1.out.size 140 3 1 #[.int .i64 l.length,.string ⟨#[]⟩,.bool false] (by unfold maxLen;omega) rfl;have HE2:=hid (HE1.out.alloc' (.cells #[.int .i64 l.length,.string ⟨#[]⟩,.bool false] 140));go_wp2_with fail
 generalize w1.alloc (.cells #[.int .i64 l.length,.string ⟨#[]⟩,.bool false] 140)=w2 at HF0 HE2⊢;obtain⟨v0,hv0⟩:∃ v0,v0=Value.slice (some ⟨w1.heap.size,0,none⟩) 1 1:=⟨_,rfl⟩
 go_loopw [5,15] (fun s5 s15 wr=>∃ (k:Nat) (ov:Value),ov=s5∧k≤l.length∧s15=.int .i64 k∧Hid (Ext w wr)∧Hid (∀ x∈l.take k,(enc x).size≤65536)∧Hid (OwnF (fN l.length::(l.take k).map (fun x=>fT (enc x))) w.heap.size s5 wr)) (fun _ s15 _=>l.length-(intOf s15).toNat)
 case atStart=>exact⟨0,_,rfl,by omega,rfl,HE2,fun x hx=>by simp at hx,HF0⟩
 case round=>
  obtain⟨k,s5,rfl,hk,rfl,hE,hFit,hO⟩:=hrel;clear HF0 HE2 HE1 hv0 HN;by_cases hlt:k<l.length
  ·have d1:decide ((k:Int)<l.length)=true:=decide_eq_true (by omega)
   have d1':decide (k<l.length)=true:=decide_eq_true hlt;obtain⟨b,o,rfl,lb,hcell⟩:=H3.out (by omega);have HG:=hid (fun j u (hu:(l[k].arr)[j]? = some u)=>hE.out.cell (hcell k hlt j u (by unfold KnownI.arr at hu;simpa using hu)));have hzs:=hid (zaG l[k]);have HOn:=hid (zch l[k]);have lbr:=Nat.lt_of_lt_of_le lb hE.out.size;have HM:Hid ((l.take (k+1)).map (fun x=>fT (enc x))=(l.take k).map (fun x=>fT (enc x))++[fT (enc l[k])]):=by
    unfold Hid;rw[List.take_succ_eq_append_getElem hlt,List.map_append];rfl
   have HC:=HOne.out l[k] (List.getElem_mem hlt);have hp:=(HPos.out l[k] (List.getElem_mem hlt))
   have HBk:=hid (HBig.out l[k] (List.getElem_mem hlt));have HFt:Hid ((enc l[k]).size≤65536 → ∀ x∈l.take (k+1),(enc x).size≤65536):=fun h9 x hx=>by
    rw[List.take_succ_eq_append_getElem hlt] at hx;rcases List.mem_append.1 hx with hx | hx
    ·exact hFit.out x hx
    ·rw[List.mem_singleton.1 hx];exact h9
   have hlen:((l.take k).map (fun x=>fT (enc x))).length≤100000:=by rw[List.length_map,List.length_take];omega
   clear H3 hcell HOne HPos HP HBig hFit;generalize hacc1:(l.take (k+1)).map (fun x=>fT (enc x))=acc1 at HM;have HA1:=hid hacc1;clear hacc1;generalize hacc:(l.take k).map (fun x=>fT (enc x))=acc at hO HM hlen;clear hacc;generalize l[k]=x at HG hzs HOn HC HM hp HBk HFt;by_cases hfit:(enc x).size≤65536
   ·have hcap:capB (enc x)=enc x:=if_pos hfit
    rw[hcap] at HC;have HFt:=hid (HFt.out hfit);have d0:(enc x).toList.isEmpty=false:=by
     cases h:(enc x).toList.isEmpty with
     | false=>rfl
     | true=>rw[←zcc,List.isEmpty_iff.1 h] at hp;exact absurd hp (by decide)
    clear hp hfit hcap HBk;generalize enc x=r at HC HM d0;generalize x.arr=arr at HG hzs HOn HC;go_wp2_with fail
    simp only[Tryz.sizeOf126,Result.andThen];rw[Oper.upon_value];go_wp2_with fail
    simp only[Tryz.isAgg126,Tryz.sizeOf126,Result.andThen,↓reduceIte,zo HG.out 67 hzs.out];rw[Oper.upon_value];go_wp2_with fail
    have HB3:=hid (Blk.new wr 126 knownZ);simp only[Tryz.sizeOf126,Result.andThen,↓reduceIte,zb HB3.out (by rw[hzs.out];exact zba) (by rw[hzs.out,zaQ]) HOn.out,hzs.out];rw[Oper.upon_skip];rw[World.setRow_alloc_new];have HB2:=hid (Blk.new wr 126 arr);have X2:=hid (Ext.alloc wr (.cells arr 126));clear HB3 HG HOn;go_wp2_with fail
    generalize wr.alloc (.cells arr 126)=w2 at HB2 X2⊢;simp only[Tryz.isAgg126,Tryz.sizeOf126,Result.andThen,↓reduceIte,za HB2.out 67 hzs.out];rw[Oper.upon_value];go_wp2_with fail
    refine(HC _ (hE.out.trans X2.out)).mono ?_;rintro en w3 ⟨rfl,x3⟩;have hO3:=hid (hO.out.ext (X2.out.trans x3));have hE3:=hid (hE.out.trans (X2.out.trans x3));clear x3 lbr lb hE hO HC HB2 X2;go_wp2_with fail
    refine((HT _ _).out).mono ?_;rintro en w4 ⟨rfl,x4⟩;have hO4:=hid (hO3.out.ext x4);have hE4:=hid (hE3.out.trans x4);clear x4 hO3 hE3;obtain⟨v',w6,hrun6,ho6,hk6,_⟩:=zaJ (P:=Tryz.prog) zbF fld_coded hO4.out hE4.out.size (fT r) (by simp;omega) (by omega);simp only[FldI.cells,fT] at hrun6;have HE6:=hid (hk6.toExt hE4.out (fun q hq=>(zt hO4.out q hq).1));have HO6:Hid (OwnF (fN l.length::acc1) w.heap.size v' w6):=by
     rw[HM.out];exact ho6
    clear ho6 hk6;go_wp2_with (at_builtin;refine zx rfl (.tmp 24) (.tmp 27) _ _ rfl rfl rfl hrun6 ?_)
    go_roundw
    case rel=>exact⟨k+1,_,rfl,by omega,by go_num,HE6,HFt.out,by rw[HA1.out];exact HO6⟩
    case measure=>simp[intOf];omega
   ·have hcap:capB (enc x)=⟨#[]⟩:=if_neg hfit
    rw[hcap] at HC;have HR:=hid (HBk.out hfit);clear hp hfit hcap HBk HFt HM HA1 HT;generalize x.arr=arr at HG hzs HOn HC;go_wp2_with fail
    simp only[Tryz.sizeOf126,Result.andThen];rw[Oper.upon_value];go_wp2_with fail
    simp only[Tryz.isAgg126,Tryz.sizeOf126,Result.andThen,↓reduceIte,zo HG.out 67 hzs.out];rw[Oper.upon_value];go_wp2_with fail
    have HB3:=hid (Blk.new wr 126 knownZ);simp only[Tryz.sizeOf126,Result.andThen,↓reduceIte,zb HB3.out (by rw[hzs.out];exact zba) (by rw[hzs.out,zaQ]) HOn.out,hzs.out];rw[Oper.upon_skip];rw[World.setRow_alloc_new];have HB2:=hid (Blk.new wr 126 arr);have X2:=hid (Ext.alloc wr (.cells arr 126));clear HB3 HG HOn;go_wp2_with fail
    generalize wr.alloc (.cells arr 126)=w2 at HB2 X2⊢;simp only[Tryz.isAgg126,Tryz.sizeOf126,Result.andThen,↓reduceIte,za HB2.out 67 hzs.out];rw[Oper.upon_value];go_wp2_with fail
    refine(HC _ (hE.out.trans X2.out)).mono ?_;rintro en w3 ⟨rfl,x3⟩;have hE3:=hid (hE.out.trans (X2.out.trans x3));clear x3 lbr lb hE hO HC HB2 X2;go_wp2_with fail
    go_ret;exact⟨by rw[HR.out];try rfl,hE3.out⟩
  ·obtain rfl:k=l.length:=by omega
   rw[List.take_length] at hO hFit;have HS:=hid hO.out.sl;have HP':=HP hFit.out;clear hlt hk H3 HOne HPos hO HT HP HBig;go_wp2_with fail
   refine((HP' _ _ HS.out).out).mono ?_;rintro en w7 ⟨rfl,x7⟩;have HE7:=hid (hE.out.trans x7);clear x7;go_wp2_with fail
   go_ret;exact⟨rfl,HE7.out⟩
end
section
open Go.RowKit
attribute [-simp] Tryz.isAgg85 Tryz.sizeOf85 Tryz.isAgg33 Tryz.sizeOf33
theorem zgl (c:FragC):c.arr[0]? = some c.f.val:=by unfold FragC.arr;simpa using fragC_f c
theorem zgj (c:FragC) (j:Nat) (v:Value) (h:(vecV c.v)[j]? = some v):c.arr[1+j]? = some v:=by unfold FragC.arr;simpa using zdR c j v h
theorem zgk (c:FragC):c.arr[66]? = some c.n.val:=by unfold FragC.arr;simpa using zdS c
theorem zmm (w0 w:World) (c d:FragC) (x y:FragI) (hx:FragAt w0 c x) (hy:FragAt w0 d y) (h0:Ext w0 w):Calls Tryz.prog 98 #[.agg c.arr,.agg d.arr] w (Ret (.bool (decide (x=y))) w):=by
 obtain⟨ea,sfa,sna⟩:=hx;obtain⟨eb,sfb,snb⟩:=hy;have HSf:=fun W (hW:Ext w W)=>hid (zic W _ _ x.f y.f (sfa.ext (h0.trans hW)) (sfb.ext (h0.trans hW)));have HSn:=fun W (hW:Ext w W)=>hid (zeU W _ _ x.n y.n (sna.ext (h0.trans hW)) (snb.ext (h0.trans hW)));have HEq:=fun W=>zay c.v d.v c.hv d.hv W;have hz1:=hid (show(vecV c.v).size=65 by rw[ze];exact c.hv);have hz2:=hid (show(vecV d.v).size=65 by rw[ze];exact d.hv);have a0:=zgl c;have b0:=zgl d;have aN:=zgk c;have bN:=zgk d;have HAV:=hid (zgj c);have HBV:=hid (zgj d)
 have hR:decide (x=y)=(decide (x.v=y.v)&&(decide (x.f=y.f)&&decide (x.n=y.n))):=by
  apply Bool.eq_iff_iff.2;simp only[decide_eq_true_eq,Bool.and_eq_true];rw[zeJ];exact⟨fun⟨a,b,c⟩=>⟨b,a,c⟩,fun⟨a,b,c⟩=>⟨b,a,c⟩⟩
 rw[hR];rw[ea,eb] at HEq;generalize decide (x.f=y.f)=tf at HSf⊢;generalize decide (x.n=y.n)=tn at HSn⊢;generalize decide (x.v=y.v)=tv at HEq⊢;rw[←ea,←eb] at HEq;clear hR ea eb sfa sfb sna snb h0;generalize c.arr=X at a0 aN HAV⊢;generalize d.arr=Y at b0 bN HBV⊢;generalize vecV c.v=VX at HEq hz1 HAV;generalize vecV d.v=VY at HEq hz2 HBV;obtain⟨⟨f1,f2,f3⟩,_,⟨n1,n2,n3⟩,_⟩:=c;obtain⟨⟨g1,g2,g3⟩,_,⟨m1,m2,m3⟩,_⟩:=d;simp only[SlV.val] at a0 aN b0 bN HSf HSn;have HBa:=hid ((Blk.new w 85 X).alloc (.cells Y 85));have HBb:=hid (Blk.new (w.alloc (.cells X 85)) 85 Y);have HX:=hid ((Ext.alloc w (.cells X 85)).alloc' (.cells Y 85))
 rw[World.size_alloc] at HBb;have HLa:=hid (fun j v (h:VX[j]? = some v)=>HBa.out.cell (HAV.out j v h));have HLb:=hid (fun j v (h:VY[j]? = some v)=>HBb.out.cell (HBV.out j v h));have c0:=HBa.out.cell a0;have d0:=HBb.out.cell b0;clear HAV HBV;cases tv with
 | false=>
  clear HSf HSn;go_enter Tryz.func98,Tryz.ntmps98;go_wp2_with fail
  simp only[Tryz.sizeOf33,Result.andThen];rw[if_neg (show ¬ (65:Nat)=0 by omega)];dsimp only;rw[Oper.upon_value];go_wp2_with fail
  simp only[Tryz.isAgg33,Tryz.sizeOf33,Result.andThen,↓reduceIte,zo HLa.out 65 hz1.out];rw[Oper.upon_value];go_wp2_with fail
  simp only[Tryz.sizeOf33,Result.andThen];rw[if_neg (show ¬ (65:Nat)=0 by omega)];dsimp only;rw[Oper.upon_value];go_wp2_with fail
  simp only[Tryz.isAgg33,Tryz.sizeOf33,Result.andThen,↓reduceIte,zo HLb.out 65 hz2.out];rw[Oper.upon_value];go_wp2_with fail
  go_ret;exact⟨rfl,HX.out⟩
 | true=>
  go_enter Tryz.func98,Tryz.ntmps98;go_wp2_with fail
  simp only[Tryz.sizeOf33,Result.andThen];rw[if_neg (show ¬ (65:Nat)=0 by omega)];dsimp only;rw[Oper.upon_value];go_wp2_with fail
  simp only[Tryz.isAgg33,Tryz.sizeOf33,Result.andThen,↓reduceIte,zo HLa.out 65 hz1.out];rw[Oper.upon_value];go_wp2_with fail
  simp only[Tryz.sizeOf33,Result.andThen];rw[if_neg (show ¬ (65:Nat)=0 by omega)];dsimp only;rw[Oper.upon_value];go_wp2_with fail
  simp only[Tryz.isAgg33,Tryz.sizeOf33,Result.andThen,↓reduceIte,zo HLb.out 65 hz2.out];rw[Oper.upon_value];go_wp2_with fail
  generalize (w.alloc (.cells X 85)).alloc (.cells Y 85)=w1 at HBa HBb HX HLa HLb c0 d0⊢;refine((HSf _ HX.out).out).mono ?_;rintro en w2 ⟨rfl,x2⟩;have HX2:=hid (HX.out.trans x2);have HA2:=hid (HBa.out.ext x2);have HB2:=hid (HBb.out.ext x2);have c66:=HA2.out.cell aN;have d66:=HB2.out.cell bN;have la:=HA2.out.lt;have lb:=HB2.out.lt;clear x2 HX HBa HBb HLa HLb c0 d0 HSf;cases tf with
  | false=>
   go_wp2_with fail
   go_ret;exact⟨rfl,HX2.out⟩
  | true=>
   go_wp2_with fail
   refine((HSn _ HX2.out).out).mono ?_;rintro en w3 ⟨rfl,x3⟩;have HX3:=hid (HX2.out.trans x3);clear x3;go_wp2_with fail
   go_ret;exact⟨rfl,HX3.out⟩
theorem zkD (w:World) (u v:Value) (a b:List FragI) (hu:FragsAt w u a) (hv:FragsAt w v b):Calls Tryz.prog 99 #[u,v,.func (.func 98) #[] #[]] w (Ret (.bool (decide (a=b))) w):=by
 obtain⟨cs,hcl,hca,hcs⟩:=hu;obtain⟨ds,hdl,hdb,hds⟩:=hv;obtain⟨A,c1,rfl,h1,h2,h3⟩:=zr hcs;obtain⟨B,c2,rfl,k1,k2,k3⟩:=zr hds;have HR:Hid ((a≠b→decide (a=b)=false)∧(a=b→decide (a=b)=true)):=⟨fun h=>decide_eq_false h,fun h=>decide_eq_true h⟩
 generalize decide (a=b)=r at HR⊢;clear hcs hds;unfold maxLen at h2 k2;have H3:=hid h3;have K3:=hid k3;have HCa:=hid hca;have HDb:=hid hdb;have HCL:=hid hcl;have HDL:=hid hdl;clear h3 k3 hca hdb;by_cases hlen:a.length=b.length
 ·have dl:((cs.length:Int) != ds.length)=false:=by simp;omega
  have hcd:cs.length=ds.length:=by omega
  have HLen:=hid hlen;clear hcl hdl hcd hlen;go_enter Tryz.func99,Tryz.ntmps99;go_wp2_with fail
  go_loopw [17] (fun i wr=>∃ k:Nat,k≤cs.length∧i=.int .i64 k∧Hid (Ext w wr)∧Hid (a.take k=b.take k)) (fun i _=>cs.length-(intOf i).toNat)
  case atStart=>exact⟨0,by omega,rfl,Ext.refl _,rfl⟩
  case round=>
   obtain⟨k,hk,rfl,hE,ht⟩:=hrel;by_cases hkc:k<cs.length
   ·have hka:k<a.length:=by rw[←HCL.out];exact hkc
    have hkb:k<b.length:=by rw[←HLen.out];exact hka
    have hkd:k<ds.length:=by rw[HDL.out];exact hkb
    obtain⟨b1,o1,rfl,lb1,g1⟩:=H3.out (by omega);obtain⟨b2,o2,rfl,lb2,g2⟩:=K3.out (by omega);have HNe:Hid (a[k]≠b[k]→r=false):=fun h=>HR.out.1 (fun e=>h (by subst e;rfl));have HNx:Hid (a[k]=b[k]→a.take (k+1)=b.take (k+1)):=fun h=>by
     rw[List.take_succ_eq_append_getElem hka,List.take_succ_eq_append_getElem hkb,ht.out,h]
    have HG1:=hid (fun j u (hu:(cs[k].arr)[j]? = some u)=>hE.out.cell (g1 k hkc j u (by unfold FragC.arr at hu;simpa using hu)));have HG2:=hid (fun W (hW:Ext wr W) j u (hu:(ds[k].arr)[j]? = some u)=>hW.cell (hE.out.cell (g2 k hkd j u (by unfold FragC.arr at hu;simpa using hu))));have hz1:=hid (zbT cs[k]);have hz2:=hid (zbT ds[k]);have ho1:=hid (zbS cs[k]);have ho2:=hid (zbS ds[k]);have HC:=fun W (hW:Ext w W)=>hid (zmm w W cs[k] ds[k] a[k] b[k] (HCa.out k _ _ (List.getElem?_eq_getElem hkc) (List.getElem?_eq_getElem hka)) (HDb.out k _ _ (List.getElem?_eq_getElem hkd) (List.getElem?_eq_getElem hkb)) hW)
    have lr1:=Nat.lt_of_lt_of_le lb1 hE.out.size;have lr2:=Nat.lt_of_lt_of_le lb2 hE.out.size;clear g1 g2 lb1 lb2 H3 K3 HCa HDb HR ht;generalize cs[k].arr=X at HG1 hz1 ho1 HC;generalize ds[k].arr=Y at HG2 hz2 ho2 HC;generalize a[k]=x at HNe HNx HC;generalize b[k]=y at HNe HNx HC;have hkd':(k:Int)<ds.length:=by omega
    clear hka hkb;go_wp2_with fail
    simp only[Tryz.sizeOf85,Result.andThen];rw[Oper.upon_value];go_wp2_with fail
    simp only[Tryz.isAgg85,Tryz.sizeOf85,Result.andThen,↓reduceIte,zo HG1.out 67 hz1.out];rw[Oper.upon_value];go_wp2_with fail
    have HB3:=hid (Blk.new wr 85 fragZ);simp only[Tryz.sizeOf85,Result.andThen,↓reduceIte,zb HB3.out (by rw[hz1.out];exact zbv) (by rw[hz1.out,zaW]) ho1.out,hz1.out];rw[Oper.upon_skip];rw[World.setRow_alloc_new];have HB1:=hid (Blk.new wr 85 X);have X1:=hid (Ext.alloc wr (.cells X 85));clear HB3 HG1;go_wp2_with fail
    generalize hw1:wr.alloc (.cells X 85)=w1 at HB1 X1⊢;clear hw1;have HY:=hid (fun j u hu=>HG2.out w1 X1.out j u hu);simp only[Tryz.sizeOf85,Result.andThen];rw[Oper.upon_value];go_wp2_with fail
    simp only[Tryz.isAgg85,Tryz.sizeOf85,Result.andThen,↓reduceIte,zo HY.out 67 hz2.out];rw[Oper.upon_value];go_wp2_with fail
    have HB4:=hid (Blk.new w1 85 fragZ);simp only[Tryz.sizeOf85,Result.andThen,↓reduceIte,zb HB4.out (by rw[hz2.out];exact zbv) (by rw[hz2.out,zaW]) ho2.out,hz2.out];rw[Oper.upon_skip];rw[World.setRow_alloc_new];have HB2:=hid (Blk.new w1 85 Y);have X2:=hid (X1.out.alloc' (.cells Y 85));have HB1':=hid (HB1.out.alloc (.cells Y 85));clear HB4 HG2 HY HB1;go_wp2_with fail
    generalize w1.alloc (.cells Y 85)=w2 at HB2 X2 HB1'⊢;simp only[Tryz.isAgg85,Tryz.sizeOf85,Result.andThen,↓reduceIte,za HB1'.out 67 hz1.out];rw[Oper.upon_value];go_wp2_with fail
    simp only[Tryz.isAgg85,Tryz.sizeOf85,Result.andThen,↓reduceIte,za HB2.out 67 hz2.out];rw[Oper.upon_value];go_wp2_with fail
    refine((HC _ (hE.out.trans X2.out)).out).mono ?_;rintro en w3 ⟨rfl,x3⟩;have hE3:=hid (hE.out.trans (X2.out.trans x3));clear x3 lr1 lr2 hE HC HB2 HB1' X2 X1;by_cases hxy:x=y
    ·rw[decide_eq_true hxy]
     have HNx:=hid (HNx.out hxy);clear HNe hxy;go_wp2_with fail
     go_roundw
     case rel=>exact⟨k+1,by omega,by go_num,hE3,HNx.out⟩
     case measure=>simp[intOf];omega
    ·rw[decide_eq_false hxy]
     have HNe:=hid (HNe.out hxy);clear HNx hxy;go_wp2_with fail
     go_ret;exact⟨by rw[HNe.out];rfl,hE3⟩
   ·obtain rfl:k=cs.length:=by omega
    have hr:Hid (r=true):=HR.out.2 (by
     have:=ht.out;rw[HCL.out,List.take_length,HLen.out,List.take_length] at this;exact this)
    clear H3 K3 ht HR HCa HDb;go_wp2_with fail
    go_ret;exact⟨by rw[hr.out];rfl,hE.out⟩
 ·have dl:((cs.length:Int) != ds.length)=true:=by simp;omega
  have hr:Hid (r=false):=HR.out.1 (fun e=>hlen (by rw[e]));clear H3 K3 HR hlen HCa HDb hcl hdl;go_enter Tryz.func99,Tryz.ntmps99;go_wp2_with fail
  go_ret;exact⟨by rw[hr.out];rfl,Ext.refl _⟩
theorem zml (w:World) (ua va ub vb:Value) (a b:KnowI) (ha:KnowAt w ua va a) (hb:KnowAt w ub vb b):Calls Tryz.prog 54 #[.agg #[ua,va],.agg #[ub,vb]] w (Ret (.bool (decide (a=b))) w):=by
 have hs1:∃ A n c,ua=.slice A n c:=by obtain⟨cs,_,_,h⟩:=ha.1;obtain⟨A,c,e,_⟩:=zr h;exact⟨_,_,_,e⟩
 have hs2:∃ A n c,va=.slice A n c:=by obtain⟨A,c,e,_⟩:=zr ha.2;exact⟨_,_,_,e⟩
 have hs3:∃ A n c,ub=.slice A n c:=by obtain⟨cs,_,_,h⟩:=hb.1;obtain⟨A,c,e,_⟩:=zr h;exact⟨_,_,_,e⟩
 have hs4:∃ A n c,vb=.slice A n c:=by obtain⟨A,c,e,_⟩:=zr hb.2;exact⟨_,_,_,e⟩
 have HF:=fun W (hW:Ext w W)=>hid (zkD W ua ub a.fs b.fs (ha.1.ext hW) (hb.1.ext hW));have HK:=fun W (hW:Ext w W)=>hid (zl4 W va vb a.ks b.ks (ha.2.ext hW) (hb.2.ext hW));have hR:decide (a=b)=(decide (a.fs=b.fs)&&decide (a.ks=b.ks)):=by
  apply Bool.eq_iff_iff.2;simp only[decide_eq_true_eq,Bool.and_eq_true];exact zb3
 rw[hR];generalize decide (a.fs=b.fs)=tf at HF⊢;generalize decide (a.ks=b.ks)=tk at HK⊢;obtain⟨A1,n1,c1,rfl⟩:=hs1;obtain⟨A2,n2,c2,rfl⟩:=hs2;obtain⟨A3,n3,c3,rfl⟩:=hs3;obtain⟨A4,n4,c4,rfl⟩:=hs4;clear ha hb hR;have HBa:=hid ((Blk.new w 29 #[.slice A1 n1 c1,.slice A2 n2 c2]).alloc (.cells #[.slice A3 n3 c3,.slice A4 n4 c4] 29));have HBb:=hid (Blk.new (w.alloc (.cells #[.slice A1 n1 c1,.slice A2 n2 c2] 29)) 29 #[.slice A3 n3 c3,.slice A4 n4 c4]);have HX:=hid ((Ext.alloc w (.cells #[.slice A1 n1 c1,.slice A2 n2 c2] 29)).alloc' (.cells #[.slice A3 n3 c3,.slice A4 n4 c4] 29));rw[World.size_alloc] at HBb;go_enter Tryz.func54,Tryz.ntmps54
 go_wp2_with fail
 generalize (w.alloc (.cells #[.slice A1 n1 c1,.slice A2 n2 c2] 29)).alloc (.cells #[.slice A3 n3 c3,.slice A4 n4 c4] 29)=w1 at HBa HBb HX⊢;refine((HF _ HX.out).out).mono ?_;rintro en w2 ⟨rfl,x2⟩;have HX2:=hid (HX.out.trans x2);have HA2:=hid (HBa.out.ext x2);have HB2:=hid (HBb.out.ext x2);have c1':=HA2.out.cell (i:=1) rfl;have d1':=HB2.out.cell (i:=1) rfl;have la:=HA2.out.lt;have lb:=HB2.out.lt;clear x2 HX HBa HBb HF;cases tf with
 | false=>
  go_wp2_with fail
  go_ret;exact⟨rfl,HX2.out⟩
 | true=>
  go_wp2_with fail
  refine((HK _ HX2.out).out).mono ?_;rintro en w3 ⟨rfl,x3⟩;have HX3:=hid (HX2.out.trans x3);clear x3;go_wp2_with fail
  go_ret;exact⟨rfl,HX3.out⟩
end
section
open Go.RowKit
structure KnowOk (k:KnowI):Prop where
 fs:∀ x∈k.fs,FragOk x
 sz:∀ x∈k.fs,∀ c∈x.f,c.pre.size≤90000
 ks:∀ x∈k.ks,KnownOk x
theorem KnowOk.fsz {k:KnowI} (h:KnowOk k):∀ x∈k.fs,zl8 x:=fun x hx=>⟨h.sz x hx,(h.fs x hx).l⟩
theorem zjo {α β:Type}:∀ (a:List α) (b:List β),a.length=b.length→(a.zip b).map (·.2)=b
 | [],[],_=>rfl
 | x::a,y::b,h=>by simp at h;simp[zjo a b h]
 | [],y::b,h=>by simp at h
 | x::a,[],h=>by simp at h
theorem zjp {α β:Type}:∀ (a:List α) (b:List β),a.length=b.length→(a.zip b).map (·.1)=a
 | [],[],_=>rfl
 | x::a,y::b,h=>by simp at h;simp[zjp a b h]
 | [],y::b,h=>by simp at h
 | x::a,[],h=>by simp at h
theorem zks {α β:Type} (enc:β→ByteArray) (a:List α) (b:List β) (h:a.length=b.length):zg (fun z:α×β=>enc z.2) (a.zip b)=zg enc b:=by
 have e:=zjo a b h;have e2:(a.zip b).map (fun z:α×β=>fT (enc z.2))=b.map (fun x=>fT (enc x)):=by
  conv=>rhs;rw[←e,List.map_map]
  rfl
 unfold zg;rw[e2,show(a.zip b).length=b.length by have:=congrArg List.length e;rw[List.length_map] at this;exact this]
theorem zip_at {α β:Type} {a:List α} {b:List β} {z:α×β} (hz:z∈a.zip b):∃ i:Nat,a[i]? = some z.1∧b[i]? = some z.2:=by
 obtain⟨i,hi,rfl⟩:=List.getElem_of_mem hz;refine⟨i,?_,?_⟩
 ·rw[List.getElem_zip]
  exact List.getElem?_eq_getElem _
 ·rw[List.getElem_zip]
  exact List.getElem?_eq_getElem _
theorem zfo {k:KnowI} (h:mayB k=true):(∀ x∈k.fs,mayF x=true)∧(∀ x∈k.ks,mayN x=true)∧k.fs.length≤64∧k.ks.length≤4096:=by
 unfold mayB at h;simp only[Bool.and_eq_true,decide_eq_true_eq,List.all_eq_true] at h;exact⟨h.1,h.2.1,h.2.2.1,h.2.2.2⟩
theorem zge (k:KnowI):(zaj k).size≠0:=by
 unfold zaj;rw[ByteArray.size_append];have:=zcx (zg zaR k.fs);omega
theorem zly (w:World) (ua va:Value) (k:KnowI) (m:Int) (hm:w.cell? ⟨0,0,none⟩=some (.int .i64 m)) (h:KnowAt w ua va k) (hok:KnowOk k):Calls Tryz.prog 121 #[.agg #[ua,va]] w (Ret (.tuple #[.string (putX (mayB k) (zaj k)),.int .i64 (errX (mayB k) (zaj k))]) w):=by
 have HMay:=fun W (hW:Ext w W)=>hid (kmay_c W ua va k m (hW.cell hm) (h.ext hW) hok.fsz);have HE0:=hid (Ext.alloc w (.cells #[ua,va] 29));cases hb:mayB k with
 | false=>
  rw[hb] at HMay;rw[show putX false (zaj k)=⟨#[]⟩ from rfl,show errX false (zaj k)=2 from rfl];obtain⟨⟨cs,-,-,hcs⟩,hak⟩:=h;obtain⟨A,c1,rfl,_⟩:=zr hcs;obtain⟨C,c3,rfl,_⟩:=zr hak;clear hcs hak hb hok hm;go_enter Tryz.func121,Tryz.ntmps121;go_wp2_with fail
  refine((HMay _ HE0.out).out).mono ?_;rintro e w1 ⟨rfl,x1⟩;have X1:=hid (HE0.out.trans x1);clear x1;go_wp2_with fail
  go_ret2;exact⟨rfl,X1.out⟩
 | true=>
  rw[hb] at HMay;obtain⟨b1,b2,b3,b4⟩:=zfo hb;obtain⟨⟨cs,hcl,hca,hcs⟩,hak⟩:=h;have HLf:=fun W (hW:Ext w W)=>hid (zlX W ua (cs.zip k.fs) (fun z=>zaR z.2) (by
   have e:(cs.zip k.fs).map (fun z:FragC×FragI=>z.1.list)=cs.map FragC.list:=by
    conv=>rhs;rw[←zjp cs k.fs hcl,List.map_map]
    rfl
   rw[e];exact hcs.ext hW) (by rw[List.length_zip];omega) (fun z hz W' hW'=>by
   obtain⟨i,i1,i2⟩:=zip_at hz;have hm2:=List.mem_of_getElem? i2;exact frag_c W' z.1 z.2 m ((hW.trans hW').cell hm) ((hca i _ _ i1 i2).ext (hW.trans hW')) (hok.fs _ hm2) (b1 _ hm2)) (fun z _=>zkH z.2))
  rw[zks zaR cs k.fs hcl] at HLf;have HLk:=fun W (hW:Ext w W)=>hid (zlW W va k.ks zan (hak.ext hW) (by omega) (fun x hx W' hW'=>by
   have h9:=zgd (hok.ks x hx) (zgV (hok.ks x hx) (b2 x hx)).1;rw[zd2 (by omega)];exact known_c W' x (hok.ks x hx) (b2 x hx)) (fun x _=>ziX x))
  have HFs:=fun W=>hid (zg0 W (capB (zaj k)) true);rw[(zdV (zge k)).1,(zdV (zge k)).2] at HFs;have HTx:=fun W v (hv:Sl W 1 v ([capB (zg zaR k.fs),capB (zg zan k.ks)].map txC))=>hid (zju W v [capB (zg zaR k.fs),capB (zg zan k.ks)] 0 hv (by simp) (by simp) (fun s hs=>by
   simp only[List.mem_cons,List.not_mem_nil,or_false] at hs;rcases hs with rfl | rfl
   ·exact zjQ _
   ·exact zjQ _) (capB (zaj k)) (fun _ hne=>by
   have h1:capB (zg zaR k.fs)=zg zaR k.fs:=by
    by_cases h9:(zg zaR k.fs).size≤65536
    ·exact zd2 h9
    ·exact absurd (show(capB (zg zaR k.fs)).size=0 by rw[zeN (by omega)];rfl) (hne _ (by simp))
   have h2:capB (zg zan k.ks)=zg zan k.ks:=by
    by_cases h9:(zg zan k.ks).size≤65536
    ·exact zd2 h9
    ·exact absurd (show(capB (zg zan k.ks)).size=0 by rw[zeN (by omega)];rfl) (hne _ (by simp))
   rw[h1,h2,zjU];rfl) (fun h0=>by
   rcases h0 with h0 | ⟨s,hs,h0⟩
   ·exact absurd rfl h0
   ·refine(zeN ?_).symm
    unfold zaj;rw[ByteArray.size_append];have t1:=zcx (zg zaR k.fs);have t2:=zcx (zg zan k.ks);have p1:=zbf zaR k.fs;have p2:=zbf zan k.ks;simp only[List.mem_cons,List.not_mem_nil,or_false] at hs;rcases hs with rfl | rfl
    ·by_cases h9:(zg zaR k.fs).size≤65536
     ·rw[zd2 h9] at h0;omega
     ·omega
    ·by_cases h9:(zg zan k.ks).size≤65536
     ·rw[zd2 h9] at h0;omega
     ·omega))
  obtain⟨A,c1,rfl,_⟩:=zr hcs;obtain⟨C,c3,rfl,_⟩:=zr hak;clear hcs hak hb hok hm b1 b2 b3 b4 hca hcl;generalize capB (zg zaR k.fs)=a' at HLf HTx;generalize capB (zg zan k.ks)=b' at HLk HTx;generalize capB (zaj k)=r at HTx HFs;generalize putX true (zaj k)=r2 at HFs⊢;generalize errX true (zaj k)=z2 at HFs⊢;have HBk:=hid (Blk.new w 29 #[.slice A cs.length c1,.slice C k.ks.length c3]);go_enter Tryz.func121,Tryz.ntmps121;go_wp2_with fail
  refine((HMay _ HE0.out).out).mono ?_;rintro e w1 ⟨rfl,x1⟩;have X1:=hid (HE0.out.trans x1);have B1:=hid (HBk.out.ext x1);have k0:=B1.out.cell (i:=0) rfl;have k1:=B1.out.cell (i:=1) rfl;have kl:=B1.out.lt;clear x1 HE0 HMay HBk;go_wp2_with fail
  refine zc (by kernel_rfl) (by kernel_rfl) (by kernel_rfl) ?_
  repeat (first
   | (refine AWq.val rfl rfl rfl rfl (fun K hK=>?_);go_big_quiet_op;refine hK _ ?_;clear hK K)
   | (refine AWq.skip rfl rfl rfl ?_;simp only[Act.put,zq6,zq7,zq8])
   | (refine AWq.call rfl Tryz.func154 (by kernel_rfl) (by kernel_rfl) rfl rfl rfl ?_;apply Exists.intro;refine And.intro (fun wc hc=>?_) ?_;(· (simp only[zh,zm,↓reduceIte,Nat.reduceEqDiff,zq1,zq2,zq3,zq4,zq5];with_reducible exact(HLf _ (X1.out.trans hc)).out));simp only[Act.put,zq6,zq7,zq8])
   | (refine AWq.call rfl Tryz.func156 (by kernel_rfl) (by kernel_rfl) rfl rfl rfl ?_;apply Exists.intro;refine And.intro (fun wc hc=>?_) ?_;(· (simp only[zh,zm,↓reduceIte,Nat.reduceEqDiff,zq1,zq2,zq3,zq4,zq5];with_reducible exact(HLk _ (X1.out.trans hc)).out));simp only[Act.put,zq6,zq7,zq8])
   | (refine AWq.call rfl Tryz.func153 (by kernel_rfl) (by kernel_rfl) rfl rfl rfl ?_;apply Exists.intro;refine And.intro (fun wc hc=>?_) ?_;(· (simp only[zh,zm,↓reduceIte,Nat.reduceEqDiff,zq1,zq2,zq3,zq4,zq5];intro y hy;exact(HTx _ _ hy).out));simp only[Act.put,zq6,zq7,zq8])
   | (refine AWq.call rfl Tryz.func148 (by kernel_rfl) (by kernel_rfl) rfl rfl rfl ?_;apply Exists.intro;refine And.intro (fun wc hc=>?_) ?_;(· (simp only[zh,zm,↓reduceIte,Nat.reduceEqDiff,zq1,zq2,zq3,zq4,zq5];with_reducible exact(HFs _).out));simp only[Act.put,zq6,zq7,zq8])
   | (refine AWq.opV (fun v W=>Sl W 1 v ([a',b'].map txC)) (fun v _ _ he h=>h.ext he) rfl rfl rfl rfl (fun wc hc=>?_) ?_;(· (have hc':=hc.rule;clear hc;go_simp;dsimp only[Gives];exact⟨sl_two wc a' b',Ext.alloc _ _⟩))))
  refine AWq.done rfl rfl rfl (fun w2 x2=>?_);simp only[zl,Act.put,zq6,zq7,zq8];rintro x5 -;clear k0 k1 kl;go_wp2_with fail
  go_ret2;exact⟨rfl,X1.out.trans x2⟩
end
section
open Go.RowKit
theorem zff (w:World) (a:FldI):OwnF [a] w.heap.size (.slice (some ⟨w.heap.size,0,none⟩) 1 1) (w.alloc (.cells #[.int .i64 a.n,.string a.s,.bool a.t] 140)):=
 zaH (Nat.le_refl _) 140 3 1 #[.int .i64 a.n,.string a.s,.bool a.t] (by unfold maxLen;omega) rfl
def Rows (ls:List (List FldI)) (u:Value) (W:World):Prop:=∃ rows:List (SlV×List FldI),rows.map (·.2)=ls∧Sl W 1 u (rows.map (fun r:SlV×List FldI=>[r.1.val])) ∧ ∀ r∈rows,Sl W 3 r.1.val (r.2.map FldI.cells)
theorem Rows.steady (ls:List (List FldI)) (u:Value):zhb (Rows ls u):=fun _ _ he ⟨rows,h1,h2,h3⟩=>⟨rows,h1,h2.ext he,fun r hr=>(h3 r hr).ext he⟩
theorem zlj:∀ (ls:List (List FldI)),(∀ l∈ls,l.length≤6000)→ls.flatten.length≤6000*ls.length
 | [],_=>by simp
 | l::ls,h=>by
  have h1:=h l (by simp);have h2:=zlj ls (fun x hx=>h x (by simp[hx]));rw[List.flatten_cons,List.length_append,List.length_cons];omega
theorem zgH {w:World} {u:Value} {ls:List (List FldI)} (h:Rows ls u w) (h1:ls.length≤10) (h2:∀ l∈ls,l.length≤6000):Calls Tryz.prog 103 #[u] w (RetQ (RowAt FldI.cells 3 (zav ls)) w):=by
 obtain⟨rows,hr,hs,hall⟩:=h;rw[←hr];refine whole_c w u rows hs hall (fun k=>?_) (fun r hr2=>?_)
 ·have hm:(rows.take k).map (·.2)=ls.take k:=by rw[←hr,List.map_take]
  rw[hm];have:=zlj (ls.take k) (fun l hl=>h2 l (List.mem_of_mem_take hl));have hk:(ls.take k).length≤10:=by rw[List.length_take];omega
  omega
 ·have:=h2 r.2 (by rw[←hr];exact List.mem_map_of_mem hr2)
  omega
theorem zcK {l:List FldI} {u:Value} {w:World} (h:RowAt FldI.cells 3 l u w):∃ s:SlV,u=s.val:=by
 obtain⟨A,c,e,_⟩:=zr h.1;exact⟨⟨A,_,c⟩,e⟩
theorem zfv {P:Program} {o:Oper} {a:Act} {w:World} {ψ:Value→World→Prop} {t:TypeId} {n:Nat} {parts:Array (Nat×Operand)} {vs:Array (Nat×Value)} {v:Value} {w':World} (ho:o.op=.buildSlice t n parts) (hp:parts.map (fun(i,x)=>(i,a.eval x))=vs) (hr:(Instr.buildSlice t n vs).run P w=.ok v w') (hψ:ψ v w'):Gives P ψ ((execOp a.eval o).run P w):=by
 subst hp;simp[execOp,ho,Gives,hr,Result.andThen];exact hψ
theorem build_2 (w:World) (s0 s1:SlV):(Instr.buildSlice 197 2 #[(0,s0.val),(1,s1.val)]).run Tryz.prog w=.ok (.slice (some ⟨w.heap.size,0,none⟩) 2 2) (w.alloc (.cells #[s0.val,s1.val] 94)):=by
 simp[go_sem,SlV.val]
theorem rows_2 {w:World} {s0 s1:SlV} {l0 l1:List FldI} (h0:Sl w 3 s0.val (l0.map FldI.cells)) (h1:Sl w 3 s1.val (l1.map FldI.cells)):Rows [l0,l1] (.slice (some ⟨w.heap.size,0,none⟩) 2 2) (w.alloc (.cells #[s0.val,s1.val] 94)):=by
 refine⟨[(s0,l0),(s1,l1)],rfl,?_,?_⟩
 ·exact Sl.of_flat (Blk.new w 94 #[s0.val,s1.val]) ⟨[],by simp⟩ (fun x hx=>by obtain⟨y,_,rfl⟩:=List.mem_map.1 hx;rfl) rfl (Nat.le_refl _) (by unfold maxLen;omega)
 ·intro r hr
  simp only[List.mem_cons,List.not_mem_nil,or_false] at hr;rcases hr with rfl | rfl
  ·exact h0.ext (Ext.alloc _ _)
  ·exact h1.ext (Ext.alloc _ _)
theorem build_4 (w:World) (s0 s1 s2 s3:SlV):(Instr.buildSlice 197 4 #[(0,s0.val),(1,s1.val),(2,s2.val),(3,s3.val)]).run Tryz.prog w=.ok (.slice (some ⟨w.heap.size,0,none⟩) 4 4) (w.alloc (.cells #[s0.val,s1.val,s2.val,s3.val] 94)):=by
 simp[go_sem,SlV.val]
theorem rows_4 {w:World} {s0 s1 s2 s3:SlV} {l0 l1 l2 l3:List FldI} (h0:Sl w 3 s0.val (l0.map FldI.cells)) (h1:Sl w 3 s1.val (l1.map FldI.cells)) (h2:Sl w 3 s2.val (l2.map FldI.cells)) (h3:Sl w 3 s3.val (l3.map FldI.cells)):Rows [l0,l1,l2,l3] (.slice (some ⟨w.heap.size,0,none⟩) 4 4) (w.alloc (.cells #[s0.val,s1.val,s2.val,s3.val] 94)):=by
 refine⟨[(s0,l0),(s1,l1),(s2,l2),(s3,l3)],rfl,?_,?_⟩
 ·exact Sl.of_flat (Blk.new w 94 #[s0.val,s1.val,s2.val,s3.val]) ⟨[],by simp⟩ (fun x hx=>by obtain⟨y,_,rfl⟩:=List.mem_map.1 hx;rfl) rfl (Nat.le_refl _) (by unfold maxLen;omega)
 ·intro r hr
  simp only[List.mem_cons,List.not_mem_nil,or_false] at hr;rcases hr with rfl | rfl | rfl | rfl
  ·exact h0.ext (Ext.alloc _ _)
  ·exact h1.ext (Ext.alloc _ _)
  ·exact h2.ext (Ext.alloc _ _)
  ·exact h3.ext (Ext.alloc _ _)
theorem build_5 (w:World) (s0 s1 s2 s3 s4:SlV):(Instr.buildSlice 197 5 #[(0,s0.val),(1,s1.val),(2,s2.val),(3,s3.val),(4,s4.val)]).run Tryz.prog w=.ok (.slice (some ⟨w.heap.size,0,none⟩) 5 5) (w.alloc (.cells #[s0.val,s1.val,s2.val,s3.val,s4.val] 94)):=by
 simp[go_sem,SlV.val]
theorem rows_5 {w:World} {s0 s1 s2 s3 s4:SlV} {l0 l1 l2 l3 l4:List FldI} (h0:Sl w 3 s0.val (l0.map FldI.cells)) (h1:Sl w 3 s1.val (l1.map FldI.cells)) (h2:Sl w 3 s2.val (l2.map FldI.cells)) (h3:Sl w 3 s3.val (l3.map FldI.cells)) (h4:Sl w 3 s4.val (l4.map FldI.cells)):Rows [l0,l1,l2,l3,l4] (.slice (some ⟨w.heap.size,0,none⟩) 5 5) (w.alloc (.cells #[s0.val,s1.val,s2.val,s3.val,s4.val] 94)):=by
 refine⟨[(s0,l0),(s1,l1),(s2,l2),(s3,l3),(s4,l4)],rfl,?_,?_⟩
 ·exact Sl.of_flat (Blk.new w 94 #[s0.val,s1.val,s2.val,s3.val,s4.val]) ⟨[],by simp⟩ (fun x hx=>by obtain⟨y,_,rfl⟩:=List.mem_map.1 hx;rfl) rfl (Nat.le_refl _) (by unfold maxLen;omega)
 ·intro r hr
  simp only[List.mem_cons,List.not_mem_nil,or_false] at hr;rcases hr with rfl | rfl | rfl | rfl | rfl
  ·exact h0.ext (Ext.alloc _ _)
  ·exact h1.ext (Ext.alloc _ _)
  ·exact h2.ext (Ext.alloc _ _)
  ·exact h3.ext (Ext.alloc _ _)
  ·exact h4.ext (Ext.alloc _ _)
def zbB (m:MsgI):List FldI:=if 256<m.held.length then [] else zav [[fN (zao m.up)],zR (putB (zH m.f) (zg clB m.f)) (okZ (zH m.f)),zR (putX (mayB m.k) (zaj m.k)) (errX (mayB m.k) (zaj m.k)),zcn m.held]
theorem zcU (s:ByteArray) (e:Int):(zR s e).length≤6000:=by unfold zR;split <;> simp
theorem zl6 (l:List PairI) (h:l.length≤1000):(zcn l).length≤6000:=by
 unfold zcn
 split
 ·unfold zdo
  have:=zcQ bothF zd4 l;rw[List.length_cons];omega
 ·simp
attribute [-simp] Tryz.isAgg36 Tryz.sizeOf36 Tryz.isAgg33 Tryz.sizeOf33
theorem zj8 (w:World) (S:SlM) (a:MsgI) (mx:Int) (hm:w.cell? ⟨0,0,none⟩=some (.int .i64 mx)) (ha:MsgAt w S a) (hf:∀ c∈a.f,c.pre.size≤90000) (hk:KnowOk a.k) (hh:a.held.length≤1000):Calls Tryz.prog 144 #[.agg (a.at S).arr] w (RetQ (RowAt FldI.cells 3 (zbB a)) w):=by
 have HA:=hid (zP (a.at S));have HFl:=fun W=>hid (zjF W a.up);have HN:=fun W z=>hid (fN_c W z);have HPf:=fun W (hW:Ext w W)=>hid (ziK W _ a.f mx (hW.cell hm) (ha.f.ext hW) hf);have HPk:=fun W (hW:Ext w W)=>hid (zly W _ _ a.k mx (hW.cell hm) (ha.k.ext hW) hk);have HHe:=fun W (hW:Ext w W)=>hid (held_c W _ a.held (ha.held.ext hW) hh);have HTx:=fun W s e=>hid (zjD W s e);have hlen:S.held.n=a.held.length:=by
  obtain⟨A,c,e,_⟩:=zr ha.held;unfold SlV.val at e;injection e
 have HW4:=fun W u (h:Rows [[fN (zao a.up)],zR (putB (zH a.f) (zg clB a.f)) (okZ (zH a.f)),zR (putX (mayB a.k) (zaj a.k)) (errX (mayB a.k) (zaj a.k)),zcn a.held] u W)=>hid (zgH h (by simp) (fun l hl=>by
  simp only[List.mem_cons,List.not_mem_nil,or_false] at hl;rcases hl with rfl | rfl | rfl | rfl
  ·simp
  ·exact zcU _ _
  ·exact zcU _ _
  ·exact zl6 _ hh))
 have hq:zbB a=if 256<a.held.length then [] else zav [[fN (zao a.up)],zR (putB (zH a.f) (zg clB a.f)) (okZ (zH a.f)),zR (putX (mayB a.k) (zaj a.k)) (errX (mayB a.k) (zaj a.k)),zcn a.held]:=rfl;have hfz:(if a.up then(1:Int) else 0)=zao a.up:=rfl;rw[hfz] at HFl;generalize zbB a=R at hq⊢;generalize putB (zH a.f) (zg clB a.f)=sf at HPf HW4 hq;generalize okZ (zH a.f)=ef at HPf HW4 hq;generalize putX (mayB a.k) (zaj a.k)=sk at HPk HW4 hq;generalize errX (mayB a.k) (zaj a.k)=ek at HPk HW4 hq;generalize zcn a.held=hx at HHe HW4 hq;generalize zao a.up=fz at HFl HW4 hq
 generalize (a.at S).arr=ar at HA⊢;have HBa:=hid (Blk.new w 36 ar);have HX:=hid (Ext.alloc w (.cells ar 36));obtain⟨⟨af1,af2,af3⟩,⟨ax1,ax2,ax3⟩,⟨ay1,ay2,ay3⟩,⟨ah1,ah2,ah3⟩,⟨ae1,ae2,ae3⟩,⟨an1,an2,an3⟩⟩:=S;simp only[SlV.val] at HPf HPk HHe;dsimp only at hlen;subst hlen;have a7:ar[7]? = some (.bool a.up):=HA.out 7 (by omega);have a8:ar[8]? = some (.slice af1 af2 af3):=HA.out 8 (by omega);have a9:ar[9]? = some (.slice ax1 ax2 ax3):=HA.out 9 (by omega);have a10:ar[10]? = some (.slice ay1 ay2 ay3):=HA.out 10 (by omega);have a11:ar[11]? = some (.slice ah1 a.held.length ah3):=HA.out 11 (by omega);have c7:=HBa.out.cell a7;have c8:=HBa.out.cell a8
 have c9:=HBa.out.cell a9;have c10:=HBa.out.cell a10;have c11:=HBa.out.cell a11;have la:=HBa.out.lt;clear HA ha hm hf hk hh hfz;by_cases hb:256<a.held.length
 ·have d0:decide ((256:Int)<a.held.length)=true:=decide_eq_true (by omega)
  have d0':decide (256<a.held.length)=true:=decide_eq_true hb;rw[if_pos hb] at hq;have HR:=hid hq;clear hq hb;go_enter Tryz.func144,Tryz.ntmps144;go_wp2_with fail
  go_ret;exact⟨_,rfl,by rw[HR.out];exact RowAt.nil _,HX.out⟩
 ·have d0:decide ((256:Int)<a.held.length)=false:=decide_eq_false (by omega)
  have d0':decide (256<a.held.length)=false:=decide_eq_false hb;rw[if_neg hb] at hq;have HR:=hid hq;clear hq hb;go_enter Tryz.func144,Tryz.ntmps144;go_wp2_with fail
  generalize w.alloc (.cells ar 36)=w1 at HBa HX c7 c8 c9 c10 c11 la⊢;refine zc (by kernel_rfl) (by kernel_rfl) (by kernel_rfl) ?_
  repeat (first
   | (refine AWq.val rfl rfl rfl rfl (fun K hK=>?_);go_big_quiet_op;refine hK _ ?_;clear hK K)
   | (refine AWq.skip rfl rfl rfl ?_;simp only[Act.put,zq6,zq7,zq8])
   | (refine AWq.call rfl Tryz.func169 (by kernel_rfl) (by kernel_rfl) rfl rfl rfl ?_;apply Exists.intro;refine And.intro (fun wc hc=>?_) ?_;(· (simp only[zh,zm,↓reduceIte,Nat.reduceEqDiff,zq1,zq2,zq3,zq4,zq5];with_reducible exact(HFl _).out));simp only[Act.put,zq6,zq7,zq8])
   | (refine AWq.call rfl Tryz.func95 (by kernel_rfl) (by kernel_rfl) rfl rfl rfl ?_;apply Exists.intro;refine And.intro (fun wc hc=>?_) ?_;(· (simp only[zh,zm,↓reduceIte,Nat.reduceEqDiff,zq1,zq2,zq3,zq4,zq5];with_reducible exact(HN _ _).out));simp only[Act.put,zq6,zq7,zq8])
   | (refine AWq.call rfl Tryz.func115 (by kernel_rfl) (by kernel_rfl) rfl rfl rfl ?_;apply Exists.intro;refine And.intro (fun wc hc=>?_) ?_;(· (simp only[zh,zm,↓reduceIte,Nat.reduceEqDiff,zq1,zq2,zq3,zq4,zq5];with_reducible exact(HPf _ (HX.out.trans hc)).out));simp only[Act.put,zq6,zq7,zq8])
   | (refine AWq.call rfl Tryz.func121 (by kernel_rfl) (by kernel_rfl) rfl rfl rfl ?_;apply Exists.intro;refine And.intro (fun wc hc=>?_) ?_;(· (simp only[zh,zm,↓reduceIte,Nat.reduceEqDiff,zq1,zq2,zq3,zq4,zq5];with_reducible exact(HPk _ (HX.out.trans hc)).out));simp only[Act.put,zq6,zq7,zq8])
   | (refine AWq.callQ (RowAt FldI.cells 3 (zR sf ef)) (RowAt.steady _ _ _) rfl Tryz.func170 (by kernel_rfl) (by kernel_rfl) rfl rfl rfl (fun wc hc=>?_) ?_;(· (simp only[zh,zm,↓reduceIte,Nat.reduceEqDiff,zq1,zq2,zq3,zq4,zq5];with_reducible exact(HTx _ sf ef).out)))
   | (refine AWq.callQ (RowAt FldI.cells 3 (zR sk ek)) (RowAt.steady _ _ _) rfl Tryz.func170 (by kernel_rfl) (by kernel_rfl) rfl rfl rfl (fun wc hc=>?_) ?_;(· (simp only[zh,zm,↓reduceIte,Nat.reduceEqDiff,zq1,zq2,zq3,zq4,zq5];with_reducible exact(HTx _ sk ek).out)))
   | (refine AWq.callQ (RowAt FldI.cells 3 hx) (RowAt.steady _ _ _) rfl Tryz.func171 (by kernel_rfl) (by kernel_rfl) rfl rfl rfl (fun wc hc=>?_) ?_;(· (simp only[zh,zm,↓reduceIte,Nat.reduceEqDiff,zq1,zq2,zq3,zq4,zq5];with_reducible exact(HHe _ (HX.out.trans hc)).out)))
   | (refine AWq.opV (RowAt FldI.cells 3 [fN fz]) (fun u _ _ he h=>RowAt.ext h he) rfl rfl rfl rfl (fun wc hc=>?_) ?_;(· (have hc':=hc.rule;clear hc;go_simp;dsimp only[Gives];exact⟨⟨OwnF.sl (l:=[fN fz]) (zff wc (fN fz)),fun h=>by cases h⟩,Ext.alloc _ _⟩)))
   | (refine AWq.opQ (Rows [[fN fz],zR sf ef,zR sk ek,hx]) (fun u _ _ he h=>Rows.steady _ u _ _ he h) rfl (fun a wc hc hl'=>⟨rfl,?_⟩) ?_;(· (have f0:RowAt FldI.cells 3 ([fN fz]) (a.tmps.getD 11 undef) wc:=hl' 11 (of_decide_eq_true (by kernel_rfl));obtain⟨s0,g0⟩:=zcK f0;rw[g0] at f0;have f1:RowAt FldI.cells 3 (zR sf ef) (a.tmps.getD 17 undef) wc:=hl' 17 (of_decide_eq_true (by kernel_rfl));obtain⟨s1,g1⟩:=zcK f1;rw[g1] at f1;have f2:RowAt FldI.cells 3 (zR sk ek) (a.tmps.getD 23 undef) wc:=hl' 23 (of_decide_eq_true (by kernel_rfl));obtain⟨s2,g2⟩:=zcK f2;rw[g2] at f2;have f3:RowAt FldI.cells 3 (hx) (a.tmps.getD 26 undef) wc:=hl' 26 (of_decide_eq_true (by kernel_rfl));obtain⟨s3,g3⟩:=zcK f3;rw[g3] at f3;refine zfv (vs:=#[(0,s0.val),(1,s1.val),(2,s2.val),(3,s3.val)]) rfl (by simp only[List.map_toArray,List.map_cons,List.map_nil];(have k0:a.eval (.tmp 11)=_:=g0);(have k1:a.eval (.tmp 17)=_:=g1);(have k2:a.eval (.tmp 23)=_:=g2);(have k3:a.eval (.tmp 26)=_:=g3);rw[k0,k1,k2,k3]) (build_4 wc s0 s1 s2 s3) ⟨rows_4 f0.1 f1.1 f2.1 f3.1,Ext.alloc _ _⟩)))
   | (refine AWq.callQ (RowAt FldI.cells 3 (zav [[fN fz],zR sf ef,zR sk ek,hx])) (RowAt.steady _ _ _) rfl Tryz.func103 (by kernel_rfl) (by kernel_rfl) rfl rfl rfl (fun wc hc=>?_) ?_;(· (simp only[zh,zm,↓reduceIte,Nat.reduceEqDiff,zq1,zq2,zq3,zq4,zq5];intro v9 h9;exact(HW4 _ _ h9).out)))
   | (refine AWq.opQ (RowAt FldI.cells 3 (zav [[fN fz],zR sf ef,zR sk ek,hx])) (RowAt.steady _ _ _) rfl (fun a wc hc hl'=>⟨rfl,?_⟩) ?_;(· (have e:=hl' 28 (of_decide_eq_true (by kernel_rfl));exact⟨e,Ext.refl _⟩))))
  refine AWq.done rfl rfl rfl (fun w5 x5=>?_);simp only[zl,Act.put,zq6,zq7,zq8];intro u2 h2
  all_goals intros
  go_wp2_with fail
  go_ret;exact⟨_,rfl,by rw[HR.out];exact h2,HX.out.trans x5⟩
end
section
open Go.RowKit
def max4 (x y z u:Int):Int:=if u>(if z>(if y>x then y else x) then z else(if y>x then y else x)) then u else(if z>(if y>x then y else x) then z else(if y>x then y else x))
theorem zgL {P:Program} (w:World) (ts:Array TypeId) (t:TypeId) (k k' k'' k3:IntKind) (x y z u:Int):(Builtin.max_ ts t #[.int k x,.int k' y,.int k'' z,.int k3 u]).run P w=.ok (.int k (max4 x y z u)) w:=by
 simp[Builtin.max_,Builtin.max2,max4]
theorem zhP:∀ (vs:List Value) (cs:Array Value) (o k:Nat),o+k+vs.length≤cs.size→((vs.zipIdx k).foldl (fun(cs:Array Value) (x:Value×Nat)=>cs.setIfInBounds (o+x.2) x.1) cs).toList=cs.toList.take (o+k)++(vs++cs.toList.drop (o+k+vs.length))
 | [],cs,o,k,_=>by simp
 | v::vs,cs,o,k,h=>by
  rw[List.length_cons] at h;have h2:o+k<cs.toList.length:=by rw[Array.length_toList];omega
  rw[List.zipIdx_cons,List.foldl_cons,zhP vs (cs.setIfInBounds (o+k) v) o (k+1) (by simp;omega)];simp only[Array.toList_setIfInBounds,List.length_cons];rw[show o+(k+1)=(o+k)+1 from rfl,List.take_succ_eq_append_getElem (by rw[List.length_set];exact h2),List.getElem_set_self,List.take_set_of_le (Nat.le_refl _),List.drop_set_of_lt (by omega),List.append_assoc];simp only[List.cons_append,List.nil_append];rw[show o+k+1+vs.length=o+k+(vs.length+1) by omega]
theorem zek {place:Nat→Option (Nat×Nat)} {cells:Array Value} {i off:Nat} {v:Value} {rest:List (Nat×Value)} (hp:place i=some (off,v.cells.size)) (hle:off+v.cells.size≤cells.size) (r:Array Value) (hr:r.toList=cells.toList.take off++(v.cells.toList++cells.toList.drop (off+v.cells.size))):Instr.fill place cells ((i,v)::rest)=Instr.fill place r rest:=by
 have e:Array.foldl (fun(cs:Array Value) (x:Value×Nat)=>cs.setIfInBounds (off+x.2) x.1) cells v.cells.zipIdx=r:=by
  apply Array.ext';rw[hr];have h:=zhP v.cells.toList cells off 0 (by rw[Array.length_toList];exact hle);rw[Nat.add_zero,Array.length_toList] at h;rw[←h,←Array.foldl_toList,Array.toList_zipIdx]
 conv=>lhs;unfold Instr.fill
 simp only[hp];rw[if_neg (by simp;omega)];rw[←e]
theorem zhO:∃ it fields,Tryz.prog.info? 85=some it∧Tryz.prog.underlying 85=some (.struct fields)∧it.zero.map (·.cells)=some fragZ∧(fields.toList.mapM (fun f=>(Tryz.prog.info? f.type).map fun i=>(f.offset,i.size)))=some [(0,1),(1,65),(66,1)]:=by
 have h:(Tryz.prog.info? 85).bind (fun it=>it.zero.map (·.cells))=some fragZ:=by kernel_rfl
 obtain⟨it,h1,h2⟩:=Option.bind_eq_some_iff.1 h;exact⟨it,_,h1,Tryz.underlying85,h2,by kernel_rfl⟩
theorem zi3 (c:FragC):Tryz.prog.built 85 [(0,.slice c.f.a c.f.n c.f.c),(1,.agg (vecV c.v)),(2,.slice c.n.a c.n.n c.n.c)]=some c.arr:=by
 obtain⟨it,fields,h1,h2,h3,h4⟩:=zhO;obtain⟨z,hz,hzc⟩:=Option.map_eq_some_iff.1 h3;unfold Program.built;simp only[h1,h2,hz,h4,hzc];have hvs:(vecV c.v).size=65:=by rw[ze];exact c.hv
 have hvl:(vecV c.v).toList=intsV c.v:=by simp[vecV,intsV]
 have hZ:fragZ.toList=[nilS.val]++(intsV vec0++[nilS.val]):=by unfold fragZ FragC.arr FragC.list;rfl
 have hl0:(intsV vec0).length=65:=by rw[zG];exact zd
 have hlc:(intsV c.v).length=65:=by rw[zG];exact c.hv
 rw[zek (off:=0) (r:=([c.f.val]++(intsV vec0++[nilS.val])).toArray) rfl (by show 0+1≤fragZ.size;rw[zaW];omega) (by rw[hZ];rfl)];rw[zek (off:=1) (r:=([c.f.val]++(intsV c.v++[nilS.val])).toArray) (by show _=some (1,(vecV c.v).size);rw[hvs];rfl) (by show 1+(vecV c.v).size≤_;rw[hvs];simp[hl0]) (by
  show _=_++((vecV c.v).toList++List.drop (1+(vecV c.v).size) _)
  rw[hvs,hvl];simp only[List.singleton_append,List.take_succ_cons,List.take_zero,List.drop_succ_cons,show 1+65=65+1 from rfl];rw[List.drop_left' hl0])]
 rw[zek (off:=66) (r:=c.arr) rfl (by show 66+1≤_;simp[hlc]) (by
  show c.list=_++([c.n.val]++List.drop (66+1) _)
  unfold FragC.list;simp only[List.singleton_append,List.take_succ_cons,List.drop_succ_cons,show 66=65+1 from rfl];rw[List.take_left' hlc,show 65+1=(intsV c.v++[nilS.val]).length by rw[List.length_append,hlc];rfl,List.drop_length];simp)]
 rfl
def RowT (w:World) (e:TypeId) (sz:Nat) (s:SlV) (n:Nat) (xs:List Value):Prop:=w.ownsRow 0 e sz s.val n xs
def FragO (w:World) (c:FragC) (x:FragI):Prop:=c.v=x.v∧RowT w 99 3 c.f x.f.length (x.f.map ClauseI.cells).flatten∧RowT w 51 2 c.n x.n.length (x.n.map Ver.cells).flatten
theorem FragO.at {w:World} {c:FragC} {x:FragI} (h:FragO w c x):FragAt w c x:=
 ⟨h.1,zam (xs:=x.f.map ClauseI.cells) (clause_coded.sizes _) (by rw[List.length_map];exact h.2.1),zam (xs:=x.n.map Ver.cells) (vr_coded.sizes _) (by rw[List.length_map];exact h.2.2)⟩
theorem FragO.ext {w w':World} {c:FragC} {x:FragI} (h:FragO w c x) (he:Ext w w'):FragO w' c x:=⟨h.1,zw h.2.1 he,zw h.2.2 he⟩
theorem FragO.keep {w w':World} {c:FragC} {x:FragI} {S:Nat→Prop} (h:FragO w c x) (hk:Keep S w w') (h1:∀ q,c.f.val.ownBlock=some q→¬ S q) (h2:∀ q,c.n.val.ownBlock=some q→¬ S q):FragO w' c x:=⟨h.1,zq h.2.1 hk h1,zq h.2.2 hk h2⟩
theorem FragO.keepBlk {w w':World} {c:FragC} {x:FragI} {q:Nat} {t:TypeId} {cs:Array Value} (h:FragO w c x) (hb:Blk w q t cs) (h1:99≠t) (h2:51≠t) (hk:Keep (fun g=>g=q) w w'):FragO w' c x:=
 h.keep hk (fun g hg hq=>zC h.2.1 hb h1 (by rw[←hq];exact hg)) (fun g hg hq=>zC h.2.2 hb h2 (by rw[←hq];exact hg))
theorem FragO.keepRow {w w':World} {c:FragC} {x:FragI} {B sz n:Nat} {t:TypeId} {v:Value} {xs:List Value} (h:FragO w c x) (hr:w.ownsRow B t sz v n xs) (h1:99≠t) (h2:51≠t) (hk:Keep (fun g=>v.ownBlock=some g) w w'):FragO w' c x:=
 h.keep hk (fun g hg hq=>ze6 h.2.1 hr h1 g hg hq) (fun g hg hq=>ze6 h.2.2 hr h2 g hg hq)
theorem zjK (w:World) (s:ByteArray) (m:Int) (hm:w.cell? ⟨0,0,none⟩=some (.int .i64 m)) (hs:s.size≤65536):Calls Tryz.prog 66 #[.string s] w (fun en w'=>∃ (v:SlV) (l:List ClauseI) (z:Int),en=.returned (.tuple #[.slice v.a v.n v.c,.int .i64 z])∧RowT w' 99 3 v l.length (l.map ClauseI.cells).flatten∧(∀ c∈l,c.pre.size≤90000)∧Ext w w'∧(∀ f,zH f=true→s=zg clB f→z=0∧l=f)):=by
 refine(getF_c w s m hm (by omega)).mono ?_;rintro en w' ⟨v,l,z,rfl,hx,hd,hb⟩;rcases hd with⟨rfl,_,_,_,hg,hr⟩ | ⟨rfl,rfl⟩
 ·obtain⟨sv,rfl⟩:=zd6 hr
  exact⟨sv,l,0,rfl,zY hr (Nat.zero_le _),fun c hc=>(hg c hc).1,hx,hb⟩
 ·exact⟨nilS,[],6,rfl,zp _ _ _ _,fun c hc=>(by cases hc),hx,fun f a b=>absurd (hb f a b).1 (by decide)⟩
theorem zjJ (w:World) (s:ByteArray) (hs:s.size≤65536):Calls Tryz.prog 73 #[.string s] w (fun en w'=>∃ (v:SlV) (l:List Ver) (z:Int),en=.returned (.tuple #[.slice v.a v.n v.c,.int .i64 z])∧RowT w' 51 2 v l.length (l.map Ver.cells).flatten∧(∀ c∈l,zaM c)∧l.length≤65536∧Ext w w'∧(∀ f:List Ver,(∀ c∈f,zax c)→f.length≤90000→itemsB f=true→s=zg verB f→z=0∧l=f)):=by
 refine(getIx_c w s hs).mono ?_;rintro en w' ⟨v,l,z,rfl,hx,hd,hb⟩;rcases hd with⟨rfl,_,_,_,hg,hl,hr⟩ | ⟨rfl,rfl⟩
 ·obtain⟨sv,rfl⟩:=zd6 hr
  exact⟨sv,l,0,rfl,zY hr (Nat.zero_le _),hg,by omega,hx,hb⟩
 ·exact⟨nilS,[],6,rfl,zp _ _ _ _,fun c hc=>(by cases hc),Nat.zero_le _,hx,fun f a b c d=>absurd (hb f a b c d).1 (by decide)⟩
theorem zgX (w:World) (s:ByteArray) (hs:s.size≤65536):Calls Tryz.prog 72 #[.string s] w (fun en w'=>∃ (v:List Int) (z:Int),en=.returned (.tuple #[.agg (vecV v),.int .i64 z])∧v.length=65∧zaA v∧Ext w w'∧(∀ u:List Int,u.length=65→zaA u→u=cleanL u→s=zg verB (endsL u)→z=0∧v=u)):=by
 refine(getV_x w s (by omega)).mono ?_;rintro en w' ⟨v,h1,h2,hb,rfl,hx⟩;refine⟨_,_,rfl,?_,?_,hx,fun u a b c d=>?_⟩
 ·split
  ·exact h1
  ·exact zd
 ·split
  ·exact h2
  ·exact zjs
 ·obtain rfl:=hb u a b c d
  have hg:gotV v s:=by
   unfold gotV;rw[decide_eq_true c];exact⟨rfl,d.symm⟩
  rw[if_pos hg,if_pos hg];exact⟨rfl,rfl⟩
end
end Go.Proofs.YtofjpdgojoppbaaGreatDoor
