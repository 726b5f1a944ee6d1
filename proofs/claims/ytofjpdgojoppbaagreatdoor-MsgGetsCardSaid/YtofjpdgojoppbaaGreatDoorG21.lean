/-
  Of the claim's proof: LyA, LyB, FrE, FrF.
-/
import Derived.OwnWalk
import Derived.Test.YtofjpdgojoppbaaGreatDoorG05
import Derived.Test.YtofjpdgojoppbaaGreatDoorG06
import Derived.Test.YtofjpdgojoppbaaGreatDoorG20
set_option maxRecDepth 100000
set_option maxHeartbeats 16000000
set_option linter.unusedVariables false
set_option linter.unusedSimpArgs false
namespace Go.Proofs.YtofjpdgojoppbaaGreatDoor
section
open Go.RowKit
def accL (l:List FldI):List UInt8:=l.foldl (fun acc f=>if acc.length≤65536 then acc++f.enc else acc) []
theorem zeS {l:List FldI} {k:Nat} (h:k<l.length):accL (l.take (k+1))=if(accL (l.take k)).length≤65536 then accL (l.take k)++l[k].enc else accL (l.take k):=by
 unfold accL;rw[List.take_succ_eq_append_getElem h,List.foldl_append];rfl
theorem zkc (l:List FldI):∀ k,k≤l.length→accL (l.take k)=encL (l.take k)∨(65536<(accL (l.take k)).length∧65536<(encL (l.take k)).length)
 | 0,_=>by left;rw[List.take_zero];rfl
 | k+1,hk=>by
  have hlt:k<l.length:=by omega
  have ih:=zkc l k (by omega);rw[zeS hlt,zgG hlt];rcases ih with ih | ⟨i1,i2⟩
  ·by_cases hl:(accL (l.take k)).length≤65536
   ·rw[if_pos hl,ih];exact .inl rfl
   ·rw[if_neg hl]
    right
    rw[ih] at hl⊢;rw[List.length_append];exact⟨by omega,by omega⟩
  ·right
   rw[if_neg (by omega),List.length_append];exact⟨i1,by omega⟩
theorem zmL {l:List FldI} (h:65536<(encL l).length):65536<(accL l).length:=by
 have:=zkc l l.length (Nat.le_refl _);rw[List.take_length] at this;rcases this with h1 | ⟨h2,_⟩
 ·rw[h1];exact h
 ·exact h2
def capB (s:ByteArray):ByteArray:=if s.size≤65536 then s else⟨#[]⟩
def capL (l:List FldI):ByteArray:=capB ⟨(encL l).toArray⟩
theorem zeq {l:List FldI} (h:(encL l).length≤65536):capL l=⟨(encL l).toArray⟩:=if_pos h
theorem ziz {l:List FldI} (h:¬ (encL l).length≤65536):capL l=⟨#[]⟩:=if_neg h
theorem zj9 (s:ByteArray):(capB s).size≤65536:=by
 unfold capB
 split
 ·assumption
 ·exact Nat.zero_le _
theorem zlM (w:World) (q:Nat) (f:FldI) (A:Option Addr) (n c:Nat) (hn:65536<n) (hq:Blk w q 48 #[.slice A n c]):Calls Tryz.prog 89 #[.agg #[.int .i64 f.n,.string f.s,.bool f.t],.pointer (some ⟨q,0,none⟩)] w (fun en w'=>en=.returned (.tuple #[])∧Ext w w'):=by
 have HQ1:=hid (hq.alloc (.cells #[.int .i64 f.n,.string f.s,.bool f.t] 140));have X1:=hid (Ext.alloc w (.cells #[.int .i64 f.n,.string f.s,.bool f.t] 140));have d0:decide ((65536:Int)<n)=true:=decide_eq_true (by omega);have d0':decide (65536<n)=true:=decide_eq_true (by omega);have q0:=HQ1.out.cell (i:=0) (v:=.slice A n c) rfl;have ql:=HQ1.out.lt;clear hq hn;go_enter Tryz.func89,Tryz.ntmps89;go_wp2_with fail
 go_end0
 exact⟨rfl,X1.out⟩
theorem zhg (w:World) (v:Value) (l:List FldI) (h:Sl w 3 v (l.map FldI.cells)) (hok:∀ f∈l,f.ok) (hpos:0<l.length):Calls Tryz.prog 51 #[v] w (Ret (.tuple #[.string (capL l),.int .i64 (if(encL l).length≤65536 then 0 else 4)]) w):=by
 by_cases htot:(encL l).length≤65536
 ·rw[zeq htot,if_pos htot]
  exact lay_c w v l h hok hpos htot
 rw[ziz htot,if_neg htot];obtain⟨A,c,rfl,h1,h2,h3⟩:=zz h;unfold maxLen at h2;obtain⟨b,o,rfl,lb,hcell⟩:=h3 hpos;have HBig:=hid (zmL (l:=l) (by omega));have HQ0:=hid (Blk.new w 48 #[.slice none 0 0]);have HE0:=hid (Ext.alloc w (.cells #[.slice none 0 0] 48));have HOk:=hid (fun k (hk:k<l.length)=>hok _ (List.getElem_mem hk));have HC:=hid hcell;have hql:=Nat.le_refl w.heap.size;clear h h3 hcell hok htot;go_enter Tryz.func51,Tryz.ntmps51;go_wp2_with fail
 generalize w.alloc (.cells #[.slice none 0 0] 48)=w0 at HQ0 HE0⊢;generalize hq:w.heap.size=q at HQ0⊢;have hq':w.heap.size≤q:=by omega
 clear hq hql;go_loopw [13] (fun i wr=>∃ k:Nat,k≤l.length∧i=.int .i64 k∧Hid (Ext w0 wr)) (fun i _=>l.length-(intOf i).toNat)
 case atStart=>exact⟨0,by omega,rfl,Ext.refl _⟩
 case round=>
  obtain⟨k,hk,rfl,HE⟩:=hrel;by_cases hlt:k<l.length
  ·have hf:=HOk.out k hlt
   have c0:=(HE0.out.trans HE.out).cell (HC.out k hlt 0 _ rfl);have c1:=(HE0.out.trans HE.out).cell (HC.out k hlt 1 _ rfl);have c2:=(HE0.out.trans HE.out).cell (HC.out k hlt 2 _ rfl);rw[Nat.add_zero] at c0;have lbr:=Nat.lt_of_lt_of_le lb (HE0.out.trans HE.out).size;obtain⟨f1,f2,f3⟩:=hf;generalize l[k]=f at c0 c1 c2 f1 f2 f3;obtain⟨n,s,t⟩:=f;dsimp only at c0 c1 c2 f1 f2 f3;cases t with
   | true=>
    clear f1 f2 f3;go_wp2_with fail
    go_roundw
    case rel=>exact⟨k+1,by omega,by go_num,HE.out.trans (Ext.alloc _ _)⟩
    case measure=>simp[intOf];omega
   | false=>
    have dn:decide (n<0)=false:=decide_eq_false (by have:=f2 rfl;omega);clear f1 f2 f3;go_wp2_with fail
    go_roundw
    case rel=>exact⟨k+1,by omega,by go_num,HE.out.trans (Ext.alloc _ _)⟩
    case measure=>simp[intOf];omega
  ·obtain rfl:k=l.length:=by omega
   have HQ1:=hid (HQ0.out.ext HE.out);have HE1:=hid (HE0.out.trans HE.out);clear HQ0 HE0 HE;go_wp2_with fail
   go_loopw [28] (fun i W=>∃ (k:Nat) (bv:Value),k≤l.length∧i=.int .i64 k∧Hid (Ext w W)∧Hid (Blk W q 48 #[bv])∧Hid (OwnB (accL (l.take k)) w.heap.size bv W)∧Hid (bv.ownBlock≠some q)) (fun i _=>l.length-(intOf i).toNat)
   case atStart=>exact⟨0,_,by omega,rfl,HE1.out,HQ1.out,by rw[List.take_zero];exact OwnB.nil _ _,by unfold Hid;simp[Value.ownBlock]⟩
   case round=>
    obtain⟨k,bv,hk2,rfl,HE2,HQ2,HO2,HN2⟩:=hrel;by_cases hlt2:k<l.length
    ·have hf:=HOk.out k hlt2
     have c0:=HE2.out.cell (HC.out k hlt2 0 _ rfl);have c1:=HE2.out.cell (HC.out k hlt2 1 _ rfl);have c2:=HE2.out.cell (HC.out k hlt2 2 _ rfl);rw[Nat.add_zero] at c0;have lbr:=Nat.lt_of_lt_of_le lb HE2.out.size;have HT:=hid (zeS hlt2);have HP:Hid (∀ W,Ext wr W→Calls Tryz.prog 89 #[.agg #[.int .i64 l[k].n,.string l[k].s,.bool l[k].t],.pointer (some ⟨q,0,none⟩)] W (PutTo W q w.heap.size bv (accL (l.take (k+1))))):=fun W hW=>by
      rw[zeS hlt2];by_cases hfit:(accL (l.take k)).length≤65536
      ·rw[if_pos hfit]
       exact put_c W q w.heap.size l[k] (accL (l.take k)) bv hf (HQ2.out.ext hW) (HO2.out.ext hW) (Nat.le_trans HE2.out.size hW.size) HN2.out hfit
      ·rw[if_neg hfit]
       have ho:=HO2.out.ext hW;have hb:=HQ2.out.ext hW;have hn:=HN2.out;obtain⟨A3,c3,rfl,_⟩:=zz (code:=zbl) ho.sl;refine(zlM W q l[k] A3 _ c3 (by omega) hb).mono ?_;rintro en W' ⟨rfl,x⟩;exact⟨rfl,_,hb.ext x,ho.ext x,hn,Keep.of_ext x⟩
     clear hf HT;generalize hacc:accL (l.take (k+1))=acc' at HP;have HA:=hid hacc;clear hacc;generalize l[k]=f at c0 c1 c2 HP;obtain⟨n,s,t⟩:=f;dsimp only at c0 c1 c2 HP;go_wp2_with fail
     refine((HP.out _ (Ext.alloc _ _))).mono ?_;rintro en w3 ⟨rfl,v',g1,g2,g3,g4⟩;have HQ3:=hid g1;have HO3:=hid g2;have HN3:=hid g3;have HE3:Hid (Ext w w3):=g4.toExt (HE2.out.trans (Ext.alloc _ _)) fun g hg=>by
      rcases hg with rfl | hg
      ·exact hq'
      ·exact(zC HO2.out.2 g hg).1
     clear g1 g2 g3 g4 HP;go_wp2_with fail
     go_roundw
     case rel=>exact⟨k+1,v',by omega,by go_num,HE3.out,HQ3.out,by rw[HA.out];exact HO3.out,HN3.out⟩
     case measure=>simp[intOf];omega
    ·obtain rfl:k=l.length:=by omega
     rw[List.take_length] at HO2;have hbig:=HBig.out;generalize accL l=acc at HO2 hbig;obtain⟨A3,c3,rfl,_⟩:=zz (code:=zbl) HO2.out.sl;have b0:=HQ2.out.cell (i:=0) (v:=.slice A3 acc.length c3) rfl;have bl:=HQ2.out.lt;have dl:decide ((65536:Int)<acc.length)=true:=decide_eq_true (by omega);have dl':decide (65536<acc.length)=true:=decide_eq_true (by omega);clear HOk HC;go_wp2_with fail
     go_ret2;exact⟨rfl,HE2.out⟩
theorem ze6 (w:World) (v:Value) (l:List FldI) (h:Sl w 3 v (l.map FldI.cells)) (hok:∀ f∈l,f.ok) (hpos:0<l.length):Calls Tryz.prog 138 #[v] w (Ret (.string (capL l)) w):=by
 have HL:=hid (zhg w v l h hok hpos);obtain⟨A,c,rfl,_⟩:=zz h;clear h hok;generalize capL l=r at HL⊢;generalize (if(encL l).length≤65536 then(0:Int) else 4)=z at HL;go_enter Tryz.func138,Tryz.ntmps138;go_wp2_with fail
 refine(HL.out).mono ?_;rintro e w1 ⟨rfl,x1⟩;go_wp2_with fail
 go_ret;exact⟨rfl,x1⟩
end
section
open Go.RowKit
theorem zgt {α:Type} {enc:α→ByteArray} {x:α}:∀ {l:List α},x∈l→(enc x).size≤(encL (l.map fun x=>fT (enc x))).length
 | [],h=>by cases h
 | y::l,h=>by
  have h1:(fT (enc y)).enc.length=(lebL (enc y).size).length+(enc y).size:=by
   show(lebL (enc y).size++(enc y).data.toList).length=_
   rw[List.length_append,Array.length_toList];rfl
  rw[List.map_cons,zad,List.length_append,h1];rcases List.mem_cons.1 h with rfl | h
  ·omega
  ·have:=zgt (enc:=enc) h;omega
theorem zeP {α:Type} {enc:α→ByteArray} {l:List α} {x:α} (hx:x∈l) (hb:¬ (enc x).size≤65536):capB (zh enc l)=⟨#[]⟩:=by
 refine if_neg ?_;rw[za7,zad,List.length_append];have:=zgt (enc:=enc) hx;omega
theorem zl9 (w:World) (v:Value) (l:List Ver) (enc:Ver→ByteArray) (h:Sl w 2 v (l.map Ver.cells)) (hl:l.length≤100000) (hone:∀ x∈l,∀ W,Ext w W→Calls Tryz.prog 163 #[.agg #[.int .i64 x.by_,.int .i64 x.n]] W (Ret (.string (capB (enc x))) W)) (hpos:∀ x∈l,0<(enc x).size):Calls Tryz.prog 161 #[v,.func (.func 163) #[] #[]] w (Ret (.string (capB (zh enc l))) w):=by
 obtain⟨A,c,rfl,h1,h2,h3⟩:=zz h;unfold maxLen at h2;have HN:=fun W n=>hid (fN_c W n);have HT:=fun W s=>hid (fT_c W s);have HOne:=hid hone;have HPos:=hid hpos;have HBig:=hid (fun x (hx:x∈l) (hb:¬ (enc x).size≤65536)=>zeP hx hb);have HP:=fun(hfit:∀ x∈l,(enc x).size≤65536) W u (h:Sl W 3 u ((fN l.length::l.map (fun x=>fT (enc x))).map FldI.cells))=>hid (ze6 W u (fN l.length::l.map (fun x=>fT (enc x))) h (fun f hf=>by
  rcases List.mem_cons.1 hf with rfl | hf
  ·exact⟨Nat.zero_le _,fun _=>Int.natCast_nonneg _,by show(l.length:Int)≤_;omega⟩
  ·obtain⟨x,hx,rfl⟩:=List.mem_map.1 hf
   exact⟨hfit x hx,fun h=>(by(have h:true=false:=h);cases h),by show(0:Int)≤_;omega⟩) (by simp))
 have e9:capL (fN l.length::l.map (fun x=>fT (enc x)))=capB (zh enc l):=rfl;rw[e9] at HP;generalize capB (zh enc l)=R at HP HBig⊢;have H3:=hid h3;clear h h3 hone hpos e9;go_enter Tryz.func161,Tryz.ntmps161;go_wp2_with fail
 refine((HN _ _).out).mono ?_;rintro en w1 ⟨rfl,x1⟩;have HE1:=hid x1;clear x1;have HF0:Hid (OwnF [fN l.length] w.heap.size (.slice (some ⟨w1.heap.size,0,none⟩) 1 1) (w1.alloc (.cells #[.int .i64 l.length,.string ⟨#[]⟩,.bool false] 140))):=zaK HE1.out.size 140 3 1 #[.int .i64 l.length,.string ⟨#[]⟩,.bool false] (by unfold maxLen;omega) rfl;have HE2:=hid (HE1.out.alloc' (.cells #[.int .i64 l.length,.string ⟨#[]⟩,.bool false] 140));go_wp2_with fail
 generalize w1.alloc (.cells #[.int .i64 l.length,.string ⟨#[]⟩,.bool false] 140)=w2 at HF0 HE2⊢;obtain⟨v0,hv0⟩:∃ v0,v0=Value.slice (some ⟨w1.heap.size,0,none⟩) 1 1:=⟨_,rfl⟩
 go_loopw [5,15] (fun s5 s15 wr=>∃ (k:Nat) (ov:Value),ov=s5∧k≤l.length∧s15=.int .i64 k∧Hid (Ext w wr)∧Hid (∀ x∈l.take k,(enc x).size≤65536)∧Hid (OwnF (fN l.length::(l.take k).map (fun x=>fT (enc x))) w.heap.size s5 wr)) (fun _ s15 _=>l.length-(intOf s15).toNat)
 case atStart=>exact⟨0,_,rfl,by omega,rfl,HE2,fun x hx=>by simp at hx,HF0⟩
 case round=>
  obtain⟨k,s5,rfl,hk,rfl,hE,hFit,hO⟩:=hrel;clear HF0 HE2 HE1 hv0 HN;by_cases hlt:k<l.length
  ·have d1:decide ((k:Int)<l.length)=true:=decide_eq_true (by omega)
   have d1':decide (k<l.length)=true:=decide_eq_true hlt;obtain⟨b,o,rfl,lb,hcell⟩:=H3.out (by omega);have c0:=hE.out.cell (hcell k hlt 0 _ rfl);have c1:=hE.out.cell (hcell k hlt 1 _ rfl);rw[Nat.add_zero] at c0;have lbr:=Nat.lt_of_lt_of_le lb hE.out.size;have HM:Hid ((l.take (k+1)).map (fun x=>fT (enc x))=(l.take k).map (fun x=>fT (enc x))++[fT (enc l[k])]):=by
    unfold Hid;rw[List.take_succ_eq_append_getElem hlt,List.map_append];rfl
   have HC:=HOne.out l[k] (List.getElem_mem hlt);have hp:=(HPos.out l[k] (List.getElem_mem hlt))
   have HBk:=hid (HBig.out l[k] (List.getElem_mem hlt));have HFt:Hid ((enc l[k]).size≤65536 → ∀ x∈l.take (k+1),(enc x).size≤65536):=fun h9 x hx=>by
    rw[List.take_succ_eq_append_getElem hlt] at hx;rcases List.mem_append.1 hx with hx | hx
    ·exact hFit.out x hx
    ·rw[List.mem_singleton.1 hx];exact h9
   have hlen:((l.take k).map (fun x=>fT (enc x))).length≤100000:=by rw[List.length_map,List.length_take];omega
   clear H3 hcell HOne HPos HP HBig hFit;generalize hacc1:(l.take (k+1)).map (fun x=>fT (enc x))=acc1 at HM;have HA1:=hid hacc1;clear hacc1;generalize hacc:(l.take k).map (fun x=>fT (enc x))=acc at hO HM hlen;clear hacc;generalize l[k]=x at c0 c1 HC HM hp HBk HFt;by_cases hfit:(enc x).size≤65536
   ·have hcap:capB (enc x)=enc x:=if_pos hfit
    rw[hcap] at HC;have HFt:=hid (HFt.out hfit);have d0:(enc x).toList.isEmpty=false:=by
     cases h:(enc x).toList.isEmpty with
     | false=>rfl
     | true=>rw[←zct,List.isEmpty_iff.1 h] at hp;exact absurd hp (by decide)
    clear hp hfit hcap HBk;generalize enc x=r at HC HM d0;go_wp2_with fail
    refine(HC _ (hE.out.alloc' _)).mono ?_;rintro en w3 ⟨rfl,x3⟩;have hO3:=hid (hO.out.ext ((Ext.alloc _ _).trans x3));have hE3:=hid (hE.out.trans ((Ext.alloc _ _).trans x3));clear x3 c0 c1 lbr lb hE hO HC;go_wp2_with fail
    refine((HT _ _).out).mono ?_;rintro en w4 ⟨rfl,x4⟩;have hO4:=hid (hO3.out.ext x4);have hE4:=hid (hE3.out.trans x4);clear x4 hO3 hE3;obtain⟨v',w6,hrun6,ho6,hk6,_⟩:=zaP (P:=Tryz.prog) zbV fld_coded hO4.out hE4.out.size (fT r) (by simp;omega) (by omega);simp only[FldI.cells,fT] at hrun6;have HE6:=hid (hk6.toExt hE4.out (fun q hq=>(zC hO4.out q hq).1));have HO6:Hid (OwnF (fN l.length::acc1) w.heap.size v' w6):=by
     rw[HM.out];exact ho6
    clear ho6 hk6;go_wp2_with (at_builtin;refine zD rfl (.tmp 24) (.tmp 27) _ _ rfl rfl rfl hrun6 ?_)
    go_roundw
    case rel=>exact⟨k+1,_,rfl,by omega,by go_num,HE6,HFt.out,by rw[HA1.out];exact HO6⟩
    case measure=>simp[intOf];omega
   ·have hcap:capB (enc x)=⟨#[]⟩:=if_neg hfit
    rw[hcap] at HC;have HR:=hid (HBk.out hfit);clear hp hfit hcap HBk HFt HM HA1 HT;go_wp2_with fail
    refine(HC _ (hE.out.alloc' _)).mono ?_;rintro en w3 ⟨rfl,x3⟩;have hE3:=hid (hE.out.trans ((Ext.alloc _ _).trans x3));clear x3 c0 c1 lbr lb hE hO HC;go_wp2_with fail
    go_ret;exact⟨by rw[HR.out];try rfl,hE3.out⟩
  ·obtain rfl:k=l.length:=by omega
   rw[List.take_length] at hO hFit;have HS:=hid hO.out.sl;have HP':=HP hFit.out;clear hlt hk H3 HOne HPos hO HT HP HBig;go_wp2_with fail
   refine((HP' _ _ HS.out).out).mono ?_;rintro en w7 ⟨rfl,x7⟩;have HE7:=hid (hE.out.trans x7);clear x7;go_wp2_with fail
   go_ret;exact⟨rfl,HE7.out⟩
end
section
open Go.RowKit
theorem zjT (w:World) {B:Nat} (hB:B≤w.heap.size) (a:FldI):OwnF [a] B (.slice (some ⟨w.heap.size,0,none⟩) 1 1) (w.alloc (.cells #[.int .i64 a.n,.string a.s,.bool a.t] 140)):=
 zaK hB 140 3 1 #[.int .i64 a.n,.string a.s,.bool a.t] (by unfold maxLen;omega) rfl
theorem layN_c (w:World) (n:Nat) (hn:n<9223372036854775808):Calls Tryz.prog 51 #[.slice (some ⟨w.heap.size,0,none⟩) 1 1] (w.alloc (.cells #[.int .i64 n,.string ⟨#[]⟩,.bool false] 140)) (Ret (.tuple #[.string (lebB n),.int .i64 0]) (w.alloc (.cells #[.int .i64 n,.string ⟨#[]⟩,.bool false] 140))):=by
 have hl:(encL [fN n]).length≤65536:=by
  have:=zcg hn;simp[encL,fN,FldI.enc];omega
 have h:=zhg _ _ [fN n] (zjT w (Nat.le_refl _) (fN n)).sl (fun f hf=>by
  rw[List.mem_singleton.1 hf];exact⟨by show(0:Nat)≤_;omega,fun _=>by show(0:Int)≤(n:Int);omega,by show(n:Int)≤_;omega⟩) (by simp)
 rw[zeq hl,if_pos hl] at h;have e:(⟨(encL [fN n]).toArray⟩:ByteArray)=lebB n:=by
  unfold lebB;simp[encL,fN,FldI.enc]
 rw[e] at h;exact h
theorem layT_c (w:World) (s:ByteArray) (hs:(zG s).size≤65536):Calls Tryz.prog 51 #[.slice (some ⟨w.heap.size,0,none⟩) 1 1] (w.alloc (.cells #[.int .i64 0,.string s,.bool true] 140)) (Ret (.tuple #[.string (zG s),.int .i64 0]) (w.alloc (.cells #[.int .i64 0,.string s,.bool true] 140))):=by
 have e:(⟨(encL [fT s]).toArray⟩:ByteArray)=zG s:=by
  unfold zG lebB;apply ByteArray.ext;apply Array.ext';simp[encL,fT,FldI.enc]
 have hl:(encL [fT s]).length≤65536:=by
  have:(encL [fT s]).length=(⟨(encL [fT s]).toArray⟩:ByteArray).size:=rfl;rw[this,e];exact hs
 have hs2:s.size≤65536:=by
  unfold zG at hs;rw[ByteArray.size_append] at hs;omega
 have h:=zhg _ _ [fT s] (zjT w (Nat.le_refl _) (fT s)).sl (fun f hf=>by
  rw[List.mem_singleton.1 hf];exact⟨hs2,⟨fun _=>by show(0:Int)≤0;omega,by show(0:Int)≤_;omega⟩⟩) (by simp)
 rw[zeq hl,if_pos hl,e] at h;exact h
def fszN (s:ByteArray):Nat:=(lebL s.size).length+s.size+4
def fszZ (s:ByteArray):Int:=if 65536<s.size then 65537 else if 65536<fszN s then 65537 else fszN s
theorem fsize_c (w:World) (b o c:Nat) (s:ByteArray) (hb:b<w.heap.size) (hc:1≤c) (hc2:c≤9223372036854775807) (hv:w.cell? ⟨b,o,none⟩=some (.string s)) (hs:s.size≤1000000):Calls Tryz.prog 106 #[.slice (some ⟨b,o,none⟩) 1 c] w (Ret (.int .i64 (fszZ s)) w):=by
 have HN:=fun W=>hid (fN_c W s.size);have HL:=fun W=>hid (layN_c W s.size (by omega));have h9:=zcg (n:=s.size) (by omega);have hsz:=zeH s.size;have HZ:Hid (fszZ s=if 65536<s.size then 65537 else if 65536<fszN s then 65537 else(fszN s:Int)):=rfl;have hN:fszN s=(lebL s.size).length+s.size+4:=rfl;rw[←hsz] at h9 hN;clear hsz;generalize lebB s.size=t at HL h9 hN;go_enter Tryz.func106,Tryz.ntmps106;go_wp2_with fail
 go_loopw [3,10] (fun nv iv wr=>Hid (Ext w wr)∧((iv=.int .i64 0∧nv=.int .i64 0)∨(iv=.int .i64 1∧nv=.int .i64 (fszN s)∧fszN s≤65536∧s.size≤65536))) (fun _ iv _=>1-(intOf iv).toNat)
 case atStart=>exact⟨Ext.refl _,.inl ⟨rfl,rfl⟩⟩
 case round=>
  obtain⟨hE,hk2⟩:=hrel;rcases hk2 with⟨rfl,rfl⟩ | ⟨rfl,rfl,hf,hs6⟩
  ·have c0:=hE.out.cell hv
   have lb:=Nat.lt_of_lt_of_le hb hE.out.size;by_cases h6:65536<s.size
   ·have d0:decide ((65536:Int)<s.size)=true:=decide_eq_true (by omega)
    have d0':decide (65536<s.size)=true:=decide_eq_true h6;have hz:=HZ.out;rw[if_pos h6] at hz;have HZ2:=hid hz;clear hz HZ h6 hN;go_wp2_with fail
    go_ret;exact⟨by rw[HZ2.out];rfl,hE.out⟩
   ·have d0:decide ((65536:Int)<s.size)=false:=decide_eq_false (by omega)
    have d0':decide (65536<s.size)=false:=decide_eq_false h6;have hz:=HZ.out;rw[if_neg h6] at hz;have HZ2:=hid hz;clear hz HZ;go_wp2_with fail
    refine((HN _).out).mono ?_;rintro en w2 ⟨rfl,x2⟩;have X2:=hid (hE.out.trans x2);clear x2;go_wp2_with fail
    refine((HL _).out).mono ?_;rintro en w3 ⟨rfl,x3⟩;have X3:=hid ((X2.out.alloc' _).trans x3);clear x3 X2;have hni:(t.size:Int)+s.size+4=(fszN s:Int):=by omega
    by_cases h7:65536<fszN s
    ·have d1:decide ((65536:Int)<fszN s)=true:=decide_eq_true (by omega)
     have d1':decide (65536<fszN s)=true:=decide_eq_true h7;have hz:=HZ2.out;rw[if_pos h7] at hz;have HZ3:=hid hz;have hfl:fszN s≤70000:=by omega
     clear hz HZ2 h6 h7;generalize fszN s=N at hN d1 d1' hni hfl⊢;clear hN;go_wp2_with fail
     go_ret;exact⟨by rw[HZ3.out];rfl,X3.out⟩
    ·have d1:decide ((65536:Int)<fszN s)=false:=decide_eq_false (by omega)
     have d1':decide (65536<fszN s)=false:=decide_eq_false h7;have hfl:fszN s≤65536:=by omega
     clear HZ2 h7 hN;go_wp2_with fail
     go_roundw
     case rel=>exact⟨X3.out,.inr ⟨by go_num,by first | rfl | go_num,hfl,by omega⟩⟩
     case measure=>simp[intOf]
  ·have hz:=HZ.out
   rw[if_neg (by omega),if_neg (by omega)] at hz;have HZ2:=hid hz;clear hz HZ hN;go_wp2_with fail
   go_ret;exact⟨by rw[HZ2.out];rfl,hE.out⟩
end
section
open Go.RowKit
theorem zlu {w:World} {q:Nat} {v u:Value} {t:TypeId} (h:Blk w q t #[v]):Blk (w.setCell ⟨q,0,none⟩ u) q t #[u]∧Keep (fun g=>g=q) w (w.setCell ⟨q,0,none⟩ u):=
 ⟨h.set 0 u,(Keep.refl (fun g=>g=q) w).setCell (p:=⟨q,0,none⟩) (.inl rfl) u⟩
theorem flay1_c (w:World) (q B:Nat) (s:ByteArray) (h:Blk w q 48 #[.slice none 0 0]) (hB:B≤w.heap.size) (hs:fszN s≤65536):Calls Tryz.prog 107 #[.string s,.pointer (some ⟨q,0,none⟩)] w (fun en w'=>en=.returned (.tuple #[]) ∧ ∃ A c,Blk w' q 48 #[.slice A (zaL s.data.toList).length c]∧OwnB (zaL s.data.toList) B (.slice A (zaL s.data.toList).length c) w'∧Keep (fun g=>g=q) w w'):=by
 have hls:s.data.toList.length=s.size:=by rw[Array.length_toList];rfl
 have hs6:s.size≤65536:=by unfold fszN at hs;omega
 have htb:(zG s).size≤65536:=by
  unfold zG;rw[ByteArray.size_append,zeH];unfold fszN at hs;omega
 have HT:=fun W=>hid (fT_c W s);have HL:=fun W=>hid (layT_c W s htb);have H4:=fun W=>hid (zfZ W s (by omega));have hfr:zaL s.data.toList=(zG s).data.toList++(zbM (zaC s.data.toList)).data.toList:=by
  unfold zaL zG lebB zbM crcF;rw[hls];simp
 have htl:(zG s).data.toList.length=(zG s).size:=by rw[Array.length_toList];rfl
 have hfl:(zbM (zaC s.data.toList)).data.toList.length=4:=rfl;rw[hfr];generalize zG s=t at HL htb htl;generalize zbM (zaC s.data.toList)=f at H4 hfl;clear hfr;have HB:=hid h;have HBw:=hid hB;have lqw:=h.lt;clear h hB;go_enter Tryz.func107,Tryz.ntmps107;go_wp2_with fail
 refine((HT _).out).mono ?_;rintro en w1 ⟨rfl,x1⟩;have X1:=hid x1;clear x1;go_wp2_with fail
 refine((HL _).out).mono ?_;rintro en w2 ⟨rfl,x2⟩;have X2:=hid ((X1.out.alloc' _).trans x2);clear x2 X1;have HB2:=hid (HB.out.ext X2.out);have c0:w2.cell? ⟨q,0,none⟩=some (.slice none 0 0):=HB2.out.cell (i:=0) rfl;have lq:=HB2.out.lt;obtain⟨v3,w3,hr3,ho3,hk3,hb3⟩:=(OwnB.nil B w2).app (Nat.le_trans HBw.out X2.out.size) (zfq w2 t) (by simp) (by rw[htl];omega);rw[List.nil_append] at ho3;have X3:=hid (hk3.toExt X2.out (fun g hg=>by cases hg));have HB3:=hid (HB.out.ext X3.out);have HO3:=hid ho3;have HN3:Hid (∀ g,v3.ownBlock=some g→w2.heap.size≤g):=fun g hg=>by
  rcases hb3 with hb3 | hb3
  ·rw[hb3] at hg;cases hg
  ·exact hb3 g hg
 clear ho3 hk3 hb3;clear HB;go_wp2_with (at_builtin;refine zD rfl (.tmp 12) (.tmp 13) _ _ rfl rfl rfl hr3 ?_)
 clear hr3 c0 lq;refine((H4 _).out).mono ?_;rintro en w4 ⟨rfl,x4⟩;have X4:=hid (X3.out.trans x4);have HB4:=hid (HB3.out.ext x4);have HO4:=hid (HO3.out.ext x4);clear x4 HB3 HO3 H4;obtain⟨v5,w5,hr5,ho5,hk5,hb5⟩:=HO4.out.app (Nat.le_trans HBw.out X4.out.size) (zfq w4 f) (by rw[htl];omega) (by rw[hfl];omega);have hw2:=X2.out.size;have hqn:v3.ownBlock≠some q:=fun e=>by
  have:=HN3.out q e;omega
 have HB5:=hid (HB4.out.keep hk5 hqn);have X5:=hid (hk5.toExt X4.out (fun g hg=>by have:=HN3.out g hg;omega));obtain⟨A5,c5,rfl,_⟩:=zz (code:=zbl) ho5.sl;have hq5:(Value.slice A5 (t.data.toList++f.data.toList).length c5).ownBlock≠some q:=fun e=>by
  rcases hb5 with hb5 | hb5
  ·exact hqn (by rw[←hb5];exact e)
  ·have:=hb5 q e
   have:=X4.out.size;omega
 have h6:=zlu (u:=.slice A5 (t.data.toList++f.data.toList).length c5) HB5.out;have HB6:=hid h6.1;have HK6:=hid ((Keep.of_ext (S:=fun g=>g=q) X5.out).trans h6.2);have HO6:Hid (OwnB (t.data.toList++f.data.toList) B (.slice A5 (t.data.toList++f.data.toList).length c5) (w5.setCell ⟨q,0,none⟩ (.slice A5 (t.data.toList++f.data.toList).length c5))):=⟨ho5.1,zy ho5.2 h6.2 fun g hg hS=>hq5 (by rw[hg,hS])⟩
 have b0:w5.cell? ⟨q,0,none⟩=some (.slice none 0 0):=HB5.out.cell (i:=0) rfl;have z0:=HB5.out.frozen 0;have l0:=HB5.out.lt;clear h6 ho5 hk5 hb5 hqn hq5 HN3 HO4 HB4 X4 X3 X2 HBw HB2 hw2 lqw;generalize hNe:(t.data.toList++f.data.toList).length=N at HB6 HK6 HO6 hr5⊢;have HNe:=hid hNe;clear hNe;go_wp2_with (at_builtin;refine zD rfl (.tmp 14) (.tmp 16) _ _ rfl rfl rfl hr5 ?_)
 go_end0
 exact⟨rfl,A5,c5,by rw[HNe.out];exact HB6.out,by rw[HNe.out];exact HO6.out,HK6.out⟩
def zic (s:ByteArray):Value:=if fszZ s>65536 then .tuple #[.string ⟨#[]⟩,.int .i64 4] else .tuple #[.string ⟨(zaL s.data.toList).toArray⟩,.int .i64 0]
theorem zjn (l:List UInt8):0<(zaL l).length:=by
 rw[zdW];omega
theorem flay_c (w:World) (b o c:Nat) (s:ByteArray) (hb:b<w.heap.size) (hc:1≤c) (hc2:c≤9223372036854775807) (hv:w.cell? ⟨b,o,none⟩=some (.string s)) (hs:s.size≤1000000):Calls Tryz.prog 59 #[.slice (some ⟨b,o,none⟩) 1 c] w (Ret (zic s) w):=by
 have HS:=fun W (hW:Ext w W)=>hid (fsize_c W b o c s (Nat.lt_of_lt_of_le hb hW.size) hc hc2 (hW.cell hv) hs);have hV:zic s=if fszZ s>65536 then .tuple #[.string ⟨#[]⟩,.int .i64 4] else .tuple #[.string ⟨(zaL s.data.toList).toArray⟩,.int .i64 0]:=rfl;by_cases hz:fszZ s>65536
 ·rw[if_pos hz] at hV
  have HV:=hid hV;generalize fszZ s=z at HS hz;have d0:decide (65536<z)=true:=decide_eq_true hz;clear hV;go_enter Tryz.func59,Tryz.ntmps59;go_wp2_with (go_at_call 106;refine((HS _ (Ext.refl _)).out).mono ?_;rintro e w1 ⟨rfl,x1⟩)
  go_ret2;exact⟨by rw[HV.out];rfl,x1⟩
 ·rw[if_neg hz] at hV
  have HV:=hid hV;have hf:fszN s≤65536:=by
   unfold fszZ at hz;by_cases h6:65536<s.size
   ·rw[if_pos h6] at hz;omega
   ·rw[if_neg h6] at hz
    by_cases h7:65536<fszN s
    ·rw[if_pos h7] at hz;omega
    ·omega
  have HL:=fun W q B h hB=>hid (flay1_c W q B s h hB hf);have hpos:=zjn s.data.toList;generalize fszZ s=z at HS hz;have d0:decide (65536<z)=false:=decide_eq_false hz;clear hV hz hf;go_enter Tryz.func59,Tryz.ntmps59;go_wp2_with (go_at_call 106;refine((HS _ (Ext.refl _)).out).mono ?_;rintro e w1 ⟨rfl,x1⟩;have X1:=hid x1;clear x1)
  have HB0:=hid (Blk.new w1 48 #[.slice none 0 0]);have HE0:=hid (X1.out.alloc' (.cells #[.slice none 0 0] 48));obtain⟨q,hq⟩:∃ q,q=w1.heap.size:=⟨_,rfl⟩
  have hqw:w.heap.size≤q:=by rw[hq];exact X1.out.size
  rw[←hq] at HB0⊢;generalize w1.alloc (.cells #[.slice none 0 0] 48)=w2 at HB0 HE0⊢;clear hq X1 HS;go_loopw [14] (fun iv wr=>Hid (Ext w wr)∧((iv=.int .i64 0∧Hid (Blk wr q 48 #[.slice none 0 0]))∨(iv=.int .i64 1 ∧ ∃ A n c,Hid (Blk wr q 48 #[.slice A n c]∧OwnB (zaL s.data.toList) w.heap.size (.slice A n c) wr)))) (fun iv _=>1-(intOf iv).toNat)
  case atStart=>exact⟨HE0.out,.inl ⟨rfl,HB0.out⟩⟩
  case round=>
   clear HB0 HE0;obtain⟨hE,hk2⟩:=hrel;rcases hk2 with⟨rfl,hB⟩ | ⟨rfl,A,n,c',hB⟩
   ·have c0:=hE.out.cell hv
    have lb:=Nat.lt_of_lt_of_le hb hE.out.size;go_wp2_with fail
    refine((HL _ _ w.heap.size hB.out hE.out.size).out).mono ?_;rintro en w3 ⟨rfl,A,c',hb3,ho3,hk3⟩;have X3:=hid (hk3.toExt hE.out (fun g hg=>by subst hg;exact hqw));have HB3:=hid (And.intro hb3 ho3);clear hb3 ho3 hk3;go_wp2_with fail
    go_roundw
    case rel=>exact⟨X3.out,.inr ⟨by go_num,A,_,c',HB3.out⟩⟩
    case measure=>simp[intOf]
   ·have b0:wr.cell? ⟨q,0,none⟩=some (.slice A n c'):=hB.out.1.cell (i:=0) rfl
    have l0:=hB.out.1.lt;have HO:=hid hB.out.2;have hcv:=ziu HO.out hpos;clear hB;go_wp2_with fail
    go_ret2;exact⟨by rw[HV.out];rfl,hE.out⟩
end
end Go.Proofs.YtofjpdgojoppbaaGreatDoor
