/-
  Of the claim's proof: LbA, LbB, LbC, LbD, LbE, LbQ, LbF, LbG, LbH, LbI, LbJ, LbK, LbL, LbZ, LbT, LyA.
-/
import Derived.Test.YtofjpdgojoppbaaGreatDoorProg
import Derived.IntWalk
import Derived.Test.YtofjpdgojoppbaaGreatDoorS01
import Derived.Test.YtofjpdgojoppbaaGreatDoorS02
import Derived.Test.YtofjpdgojoppbaaGreatDoorS03
import Derived.Test.YtofjpdgojoppbaaGreatDoorS04
set_option maxRecDepth 100000
set_option maxHeartbeats 16000000
set_option linter.unusedVariables false
set_option linter.unusedSimpArgs false
namespace Go.Proofs.YtofjpdgojoppbaaGreatDoor
section
def lebL (n:Nat):List UInt8:=if h:127<n then UInt8.ofNat (n%128+128)::lebL (n/128) else [UInt8.ofNat n]
termination_by n
decreasing_by omega
theorem zaz {n:Nat} (h:n≤127):lebL n=[UInt8.ofNat n]:=by rw[lebL,dif_neg (by omega)]
theorem zcD {n:Nat} (h:127<n):lebL n=UInt8.ofNat (n%128+128)::lebL (n/128):=by rw[lebL,dif_pos h]
theorem zhJ:∀ (d n:Nat),n<128^(d+1)→(lebL n).length≤d+1
 | 0,n,h=>by rw[zaz (by omega)];exact Nat.le_refl _
 | d+1,n,h=>by
  by_cases hn:127<n
  ·rw[zcD hn,List.length_cons]
   have:=zhJ d (n/128) (by
    rw[Nat.div_lt_iff_lt_mul (by omega)];rw[Nat.pow_succ] at h;exact h)
   omega
  ·rw[zaz (by omega)]
   simp
theorem zcg (n:Nat):0<(lebL n).length:=by
 by_cases hn:127<n
 ·rw[zcD hn];simp
 ·rw[zaz (by omega)];simp
theorem zb1 {n:Nat} (h:n<9223372036854775808):(lebL n).length≤9:=zhJ 8 n (by omega)
theorem zhx {a m i:Nat} (ha:a<128^i):a|||(m*128^i)=a+m*128^i:=by
 have e:(128:Nat)^i=2^(7*i):=by rw[Nat.pow_mul]
 rw[e] at ha⊢;rw[Nat.or_comm,Nat.mul_comm m,Nat.add_comm];exact(Nat.two_pow_add_eq_or_of_lt ha m).symm
structure Reads (n:Nat) (i acc m:Nat):Prop where
 sum:n=acc+m*128^i
 low:acc<128^i
 one:0<i→0<m
theorem Reads.start (n:Nat):Reads n 0 0 n:=⟨by simp,by simp,fun h=>by omega⟩
theorem Reads.step {n i acc m:Nat} (h:Reads n i acc m) (hm:127<m):Reads n (i+1) (acc+m%128*128^i) (m/128):=by
 refine⟨?_,?_,fun _=>Nat.div_pos (by omega) (by omega)⟩
 ·have e:=Nat.div_add_mod m 128
  have hs:=h.sum;rw[Nat.pow_succ,Nat.add_assoc,show m/128*(128^i*128)=(128*(m/128))*128^i by rw[Nat.mul_comm (128^i),←Nat.mul_assoc,Nat.mul_comm (m/128)],←Nat.add_mul,Nat.add_comm (m%128),e];exact hs
 ·have h1:=h.low
  have h2:m%128<128:=Nat.mod_lt _ (by omega);have h3:m%128*128^i≤127*128^i:=Nat.mul_le_mul_right _ (by omega);rw[Nat.pow_succ];omega
theorem Reads.stop {n i acc m:Nat} (h:Reads n i acc m):acc+m*128^i=n:=h.sum.symm
theorem Reads.lt {n i acc m:Nat} (h:Reads n i acc m) (hn:n<9223372036854775808) (hi:0<i):i<9:=by
 refine Classical.byContradiction fun h9=>?_;have h1:=h.one hi;have h2:128^9≤128^i:=Nat.pow_le_pow_right (by omega) (by omega);have h3:128^i≤m*128^i:=Nat.le_mul_of_pos_left _ h1;have h4:=h.sum;have:(128:Nat)^9=9223372036854775808:=by decide
 omega
theorem zil {a b:Nat} (h:a|||b<9223372036854775808):bits .or .i64 (a:Int) (b:Int)=((a|||b:Nat):Int):=by
 have ha:a≤a|||b:=Nat.left_le_or;have hb:b≤a|||b:=Nat.right_le_or;unfold bits;simp;have h64:(2:Nat)^IntKind.i64.bits=18446744073709551616:=rfl;rw[h64,Nat.mod_eq_of_lt (by omega),Nat.mod_eq_of_lt (by omega)];exact IntWalk.i64_in _ (by omega)
theorem zjY {m i:Nat} (hm:m<128) (hi:i<9):IntKind.i64.wrap ((m:Int)*2^(7*(i:Int)).toNat)=((m*128^i:Nat):Int):=by
 have e:(7*(i:Int)).toNat=7*i:=by omega
 have e2:(2:Nat)^(7*i)=128^i:=by rw[Nat.pow_mul]
 have h1:(128:Nat)^i≤128^8:=Nat.pow_le_pow_right (by omega) (by omega);have h2:m*128^i≤127*128^8:=Nat.mul_le_mul (by omega) h1;have h3:(127:Nat)*128^8=9151314442816847872:=by decide
 rw[e,show((m:Int)*2^(7*i))=((m*2^(7*i):Nat):Int) by simp,e2];exact IntWalk.i64_in _ (by omega)
end
section
open Go.RowKit
theorem zk1:(Tryz.prog.info? 5).map (fun i=>(i.zero,i.size,i.bytes))=some (some (.int .u8 0),1,1):=by kernel_rfl
theorem zes:Elem Tryz.prog 48 5 1 1:=by
 obtain⟨i0,h0,h1,h2,h3⟩:=info_parts zk1;exact⟨Tryz.underlying48,i0,_,h0,h1,h2,h3,rfl⟩
def za4 (b:UInt8):List Value:=[.int .u8 b.toNat]
theorem byte_coded:Coded za4 1:=⟨fun _=>rfl,fun a u hu=>by simp[za4] at hu;rcases hu with rfl;rfl⟩
theorem flatB (l:List UInt8):(l.map za4).flatten=l.map fun b=>.int .u8 b.toNat:=by
 induction l with
 | nil=>rfl
 | cons x l ih=>rw[List.map_cons,List.flatten_cons,ih];rfl
def OwnB (l:List UInt8) (B:Nat) (v:Value) (w:World):Prop:=(l.length=0→v=.slice none 0 0)∧w.ownsRow B 5 1 v l.length (l.map za4).flatten
theorem OwnB.sl {l:List UInt8} {B:Nat} {v:Value} {w:World} (h:OwnB l B v w):Sl w 1 v (l.map za4):=
 zam (xs:=l.map za4) (byte_coded.sizes _) (by rw[List.length_map];exact h.2)
theorem OwnB.ext {l:List UInt8} {B:Nat} {v:Value} {w w':World} (h:OwnB l B v w) (he:Ext w w'):OwnB l B v w':=⟨h.1,zw h.2 he⟩
theorem OwnB.nil (B:Nat) (w:World):OwnB [] B (.slice none 0 0) w:=⟨fun _=>rfl,zp _ _ _ _⟩
theorem OwnB.push {l:List UInt8} {B:Nat} {v:Value} {w:World} (h:OwnB l B v w) (hB:B≤w.heap.size) (x:UInt8) (hl:l.length≤1000000):∃ v' w',(Builtin.append_ #[48,48] 48 #[v,.slice (some ⟨w.heap.size,0,none⟩) 1 1]).run Tryz.prog (w.alloc (.cells #[.int .u8 x.toNat] 5))=.ok v' w'∧OwnB (l++[x]) B v' w'∧Keep (fun q=>v.ownBlock=some q) w w':=by
 obtain⟨v',w',hrun,ho,hk,hbl⟩:=zaJ (P:=Tryz.prog) zes byte_coded h.2 hB x (by omega) (by omega);exact⟨v',w',hrun,⟨fun h0=>by simp at h0,ho⟩,hk⟩
theorem OwnB.app {l m:List UInt8} {B:Nat} {v u:Value} {w:World} {tx:TypeId} (h:OwnB l B v w) (hB:B≤w.heap.size) (hs:Src Tryz.prog 1 tx u m.length (m.map za4).flatten w) (hl:l.length≤1000000) (hml:m.length≤1000000):∃ v' w',(Builtin.append_ #[48,tx] 48 #[v,u]).run Tryz.prog w=.ok v' w'∧OwnB (l++m) B v' w'∧Keep (fun q=>v.ownBlock=some q) w w'∧(v'.ownBlock=v.ownBlock ∨ ∀ q,v'.ownBlock=some q→w.heap.size≤q):=by
 obtain⟨v',w',hr,ho,hk,hb9,hn⟩:=zeO (ty:=48) zes h.2 hB hs (by unfold maxLen;omega) (by omega);refine⟨v',w',hr,⟨fun h0=>?_,?_⟩,hk,hb9⟩
 ·rw[List.length_append] at h0
  exact hn h0 (h.1 (by omega))
 ·rw[List.length_append,List.map_append,List.flatten_append]
  exact ho
theorem ze1 (w:World) (s:ByteArray):Src Tryz.prog 1 9 (.string s) s.data.toList.length (s.data.toList.map za4).flatten w:=by
 have h:=Src.ofString (P:=Tryz.prog) w (tx:=9) Tryz.underlying9 s;rw[flatB];have e:s.data.toList.length=s.size:=by rw[Array.length_toList];rfl
 rw[e];exact h
theorem zkI (ns:List UInt8):∀ r:ByteArray,(ns.map fun b=>((b.toNat:Nat):Int)).foldl (fun r n=>r.push (UInt8.ofNat n.toNat)) r=⟨r.data++ns.toArray⟩:=by
 induction ns with
 | nil=>intro r;simp
 | cons b ns ih=>
  intro r;rw[List.map_cons,List.foldl_cons,ih];have:UInt8.ofNat ((b.toNat:Int)).toNat=b:=by simp
  rw[this];apply ByteArray.ext;simp[ByteArray.push,Array.append_assoc]
theorem zia {l:List UInt8} {B:Nat} {v:Value} {w:World} (h:OwnB l B v w) (hpos:0<l.length):(convert 48 9 v).run Tryz.prog w=.ok (.string ⟨l.toArray⟩) w:=by
 obtain⟨A,c,rfl,_,_,hc⟩:=zr (code:=za4) h.sl;obtain⟨b,o,rfl,_,hcell⟩:=hc hpos;rw[run_convert_bytes_string _ _ _ 5 _ _ _ Tryz.underlying48 Tryz.underlying5 Tryz.underlying9];rw[run_bytesToString _ _ _ _ (l.map fun b=>((b.toNat:Nat):Int)) ?_]
 ·rw[zkI]
  have e0:ByteArray.empty.data=#[]:=rfl;rw[e0,Array.empty_append]
 ·have:=run_loadCells_list (P:=Tryz.prog) w ⟨b,o,none⟩ (l.map fun b=>Value.int .u8 b.toNat) (fun j v hv=>by
   rw[List.getElem?_map] at hv;obtain⟨x,hx,rfl⟩:=Option.map_eq_some_iff.1 hv;obtain⟨hj,he⟩:=List.getElem?_eq_some_iff.1 hx;have:=hcell j hj 0 (.int .u8 x.toNat) (by rw[he];rfl);rw[Addr.add_lit];simpa using this)
  rw[List.length_map] at this;rw[this,List.map_map];rfl
end
section
open Go.RowKit
def lebB (n:Nat):ByteArray:=⟨(lebL n).toArray⟩
theorem ziT {n:Nat} (h:n≤127):lebB n=⟨#[UInt8.ofNat n]⟩:=by unfold lebB;rw[zaz h]
theorem zlZ {n:Nat} (h:127<n):lebB n=⟨#[UInt8.ofNat (n%128+128)]⟩++lebB (n/128):=by
 unfold lebB;rw[zcD h];apply ByteArray.ext;simp
theorem zee (n:Nat):(lebB n).size=(lebL n).length:=by simp[lebB,ByteArray.size]
theorem zft {n:Nat} (h:n<9223372036854775808):(lebB n).size≤9:=by rw[zee];exact zb1 h
theorem zen (w:World) (z:Int):(convert 48 9 (.slice (some ⟨w.heap.size,0,none⟩) 1 1)).run Tryz.prog (w.alloc (.cells #[.int .u8 z] 5))=.ok (.string ⟨#[UInt8.ofNat z.toNat]⟩) (w.alloc (.cells #[.int .u8 z] 5)):=by
 rw[run_convert_bytes_string _ _ _ 5 _ _ _ Tryz.underlying48 Tryz.underlying5 Tryz.underlying9];rw[run_bytesToString _ _ _ _ [z] (by simp[go_sem])];rfl
def numB (z:Int):ByteArray:=if z<0 then⟨#[UInt8.ofNat (z%256).toNat]⟩ else lebB z.toNat
theorem zlL (n:Nat):numB (n:Int)=lebB n:=by unfold numB;rw[if_neg (by omega)];rfl
theorem zbp {z:Int} (h:z≤9223372036854775807):(numB z).size≤9:=by
 unfold numB;by_cases h0:z<0
 ·rw[if_pos h0];show(1:Nat)≤9;omega
 ·rw[if_neg h0];exact zft (by omega)
theorem zf2 (w:World) (n:Nat) (hn:n<9223372036854775808):Calls Tryz.prog 46 #[.int .i64 n] w (Ret (.string (lebB n)) w):=by
 go_enter Tryz.func46,Tryz.ntmps46;go_wp2_with fail
 go_loopw [0,3] (fun s0 s3 wr=>∃ (m:Nat) (acc:ByteArray),m≤n∧s0=.int .i64 m∧s3=.string acc∧Hid (acc++lebB m=lebB n)∧Ext w wr) (fun s0 _ _=>(intOf s0).toNat)
 case atStart=>exact⟨n,⟨#[]⟩,Nat.le_refl _,rfl,rfl,by unfold Hid;apply ByteArray.ext;simp,Ext.refl _⟩
 case round=>
  obtain⟨m,acc,hm,rfl,rfl,hacc,hE⟩:=hrel;have HE:=hid hE;have hsz:acc.size≤9:=by
   have h1:=congrArg ByteArray.size hacc.out;rw[ByteArray.size_append] at h1;have:=zft hn;omega
  clear hE;by_cases hb:127<m
  ·have d0:decide ((127:Int)<m)=true:=decide_eq_true (by omega)
   have d0':decide (127<m)=true:=decide_eq_true hb;have hc:=fun W=>zen W ((m:Int)%128+128);rw[show((m:Int)%128+128).toNat=m%128+128 by omega] at hc;have HS:=hid hacc.out;rw[zlZ hb] at HS;clear hacc;generalize UInt8.ofNat (m%128+128)=z at hc HS;go_wp2_with fail
   go_roundw
   case rel=>exact⟨m/128,acc++⟨#[z]⟩,by omega,by go_num,rfl,by unfold Hid;rw[←HS.out];apply ByteArray.ext;simp,HE.out.trans (Ext.alloc _ _)⟩
   case measure=>simp[intOf];omega
  ·have d0:decide ((127:Int)<m)=false:=decide_eq_false (by omega)
   have d0':decide (127<m)=false:=decide_eq_false hb;have hc:=fun W=>zen W (m:Int);rw[show((m:Int)).toNat=m by omega] at hc;have HS:=hid hacc.out;rw[ziT (by omega)] at HS;clear hacc;generalize UInt8.ofNat m=z at hc HS;go_wp2_with fail
   go_ret;exact⟨by rw[←HS.out];rfl,HE.out.trans (Ext.alloc _ _)⟩
def zO (s:ByteArray):ByteArray:=lebB s.size++s
theorem zc6 (w:World) (s:ByteArray) (hs:s.size≤100000):Calls Tryz.prog 47 #[.string s] w (Ret (.string (zO s)) w):=by
 have HN:=fun W=>hid (zf2 W s.size (by omega));have h9:=zft (n:=s.size) (by omega);unfold zO;generalize lebB s.size=p at HN h9⊢;go_enter Tryz.func47,Tryz.ntmps47;go_wp2_with fail
 refine((HN _).out).mono ?_;rintro e w1 ⟨rfl,x1⟩;go_wp2_with fail
 go_ret;exact⟨rfl,x1⟩
theorem zhB (w:World) (n:Nat) (hn:n<9223372036854775808):Calls Tryz.prog 90 #[.int .i64 n] w (RetQ (OwnB (lebL n) w.heap.size) w):=by
 go_enter Tryz.func90,Tryz.ntmps90;go_wp2_with fail
 go_loopw [0,3] (fun s0 s3 wr=>∃ (m:Nat) (acc:List UInt8) (ov:Value),m≤n∧s0=.int .i64 m∧ov=s3∧Hid (acc++lebL m=lebL n)∧OwnB acc w.heap.size ov wr∧Ext w wr) (fun s0 _ _=>(intOf s0).toNat)
 case atStart=>exact⟨n,[],_,Nat.le_refl _,rfl,rfl,rfl,OwnB.nil _ _,Ext.refl _⟩
 case round=>
  obtain⟨m,acc,v,hm,rfl,rfl,hacc,hO,hE⟩:=hrel;have HE:=hid hE;have HO:=hid hO;have hsz:acc.length≤9:=by
   have h1:=congrArg List.length hacc.out;rw[List.length_append] at h1;have:=zb1 hn;omega
  by_cases hb:127<m
  ·have d0:decide ((128:Int)≤m)=true:=decide_eq_true (by omega)
   have d0':decide (128≤m)=true:=decide_eq_true (by omega);obtain⟨v',w2,hrun,hO2,hk2⟩:=hO.push hE.size (UInt8.ofNat (m%128+128)) (by omega);rw[show(((UInt8.ofNat (m%128+128)).toNat:Nat):Int)=(m:Int)%128+128 by
    rw[UInt8.toNat_ofNat'];omega] at hrun
   have HE2:Hid (Ext w w2):=hk2.toExt hE fun q hq=>(zt hO.2 q hq).1;have HO2:=hid hO2;have HS:=hid hacc.out;rw[zcD hb] at HS;clear hacc hO2 hk2 hO hE;generalize UInt8.ofNat (m%128+128)=z at HO2 HS;go_wp2_with (at_builtin;refine zx rfl (.tmp 6) (.tmp 11) _ _ rfl rfl rfl hrun ?_)
   go_roundw
   case rel=>exact⟨m/128,acc++[z],_,by omega,by go_num,rfl,by unfold Hid;rw[←HS.out];simp,HO2.out,HE2.out⟩
   case measure=>simp[intOf];omega
  ·have d0:decide ((128:Int)≤m)=false:=decide_eq_false (by omega)
   have d0':decide (128≤m)=false:=decide_eq_false (by omega);obtain⟨v',w2,hrun,hO2,hk2⟩:=hO.push hE.size (UInt8.ofNat m) (by omega);rw[show(((UInt8.ofNat m).toNat:Nat):Int)=(m:Int) by
    rw[UInt8.toNat_ofNat'];omega] at hrun
   have HE2:Hid (Ext w w2):=hk2.toExt hE fun q hq=>(zt hO.2 q hq).1;have HO2:=hid hO2;have HS:=hid hacc.out;rw[zaz (by omega)] at HS;clear hacc hO2 hk2 hO hE;generalize UInt8.ofNat m=z at HO2 HS;go_wp2_with (at_builtin;refine zx rfl (.tmp 15) (.tmp 18) _ _ rfl rfl rfl hrun ?_)
   go_ret;exact⟨_,rfl,by rw[←HS.out];exact HO2.out,HE2.out⟩
end
section
open Go.RowKit
def InAt (w:World) (q:Nat) (s:ByteArray) (e:Int):Prop:=Blk w q 122 #[.string s,.int .i64 e]
theorem InAt.ext {w w':World} {q:Nat} {s:ByteArray} {e:Int} (h:InAt w q s e) (he:Ext w w'):InAt w' q s e:=Blk.ext h he
theorem zgo (w:World) (q:Nat) (s:ByteArray) (e:Int) (h:InAt w q s e):Calls Tryz.prog 61 #[.pointer (some ⟨q,0,none⟩)] w (Ret (.int .i64 e) w):=by
 have h:Blk w q 122 #[.string s,.int .i64 e]:=h;have c1:=h.cell (i:=1) (v:=.int .i64 e) rfl;have l1:=h.lt;clear h;go_enter Tryz.func61,Tryz.ntmps61;go_wp2_with fail
 go_ret;exact⟨rfl,Ext.refl _⟩
def zdn (s:ByteArray) (e:Int):Int:=if e=0 then s.size else 0
theorem zfs (w:World) (q:Nat) (s:ByteArray) (e:Int) (h:InAt w q s e):Calls Tryz.prog 62 #[.pointer (some ⟨q,0,none⟩)] w (Ret (.int .i64 (zdn s e)) w):=by
 have HE:=hid (zgo w q s e h);have H:Hid (Blk w q 122 #[.string s,.int .i64 e]):=h;clear h;unfold zdn;by_cases h0:e=0
 ·subst h0
  rw[if_pos rfl];go_enter Tryz.func62,Tryz.ntmps62;go_wp2_with fail
  refine(HE.out).mono ?_;rintro e w1 ⟨rfl,x1⟩;have X1:=hid x1;have h:=H.out.ext x1;have c0:=h.cell (i:=0) (v:=.string s) rfl;have l0:=h.lt;clear h x1;go_wp2_with fail
  go_ret;exact⟨rfl,X1.out⟩
 ·rw[if_neg h0]
  have d0:(e != 0)=true:=by simp[h0]
  go_enter Tryz.func62,Tryz.ntmps62;go_wp2_with fail
  refine(HE.out).mono ?_;rintro e w1 ⟨rfl,x1⟩;have X1:=hid x1;clear x1;go_wp2_with fail
  go_ret;exact⟨rfl,X1.out⟩
def zgn (e k:Int):Int:=if e=0 then k else e
theorem zfC (w:World) (q:Nat) (s:ByteArray) (e k:Int) (h:InAt w q s e):Calls Tryz.prog 110 #[.pointer (some ⟨q,0,none⟩),.int .i64 k] w (fun en w'=>en=.returned (.tuple #[])∧Keep (fun g=>g=q) w w'∧InAt w' q s (zgn e k)):=by
 have H:Hid (Blk w q 122 #[.string s,.int .i64 e]):=h;have c1:=H.out.cell (i:=1) (v:=.int .i64 e) rfl;have z1:=H.out.frozen 1;have l1:=H.out.lt;clear h;unfold zgn;by_cases h0:e=0
 ·subst h0
  rw[if_pos rfl];go_enter Tryz.func110,Tryz.ntmps110;go_wp2_with fail
  go_end0
  exact⟨rfl,Keep.setCell (S:=fun g=>g=q) (Keep.refl _ _) (p:=⟨q,1,none⟩) (.inl rfl) _,H.out.set 1 _⟩
 ·rw[if_neg h0]
  have d0:(e==0)=false:=by simp[h0]
  go_enter Tryz.func110,Tryz.ntmps110;go_wp2_with fail
  go_end0
  exact⟨rfl,Keep.refl _ _,H.out⟩
def Took (s:ByteArray) (e:Int) (k:Nat) (t s':ByteArray) (e':Int):Prop:=
 (t=⟨#[]⟩∧s'=s∧e'≠0∧(e≠0∨s.size<k))∨(e=0∧k≤s.size∧t=s.extract 0 k∧s'=s.extract k s.size∧e'=0)
theorem zli (w:World) (q:Nat) (s:ByteArray) (e:Int) (k:Nat) (h:InAt w q s e) (hs:s.size≤1000000) (hk:k≤9223372036854775807):Calls Tryz.prog 109 #[.pointer (some ⟨q,0,none⟩),.int .i64 k] w (fun en w'=>∃ t s' e',en=.returned (.string t)∧Keep (fun g=>g=q) w w'∧InAt w' q s' e'∧Took s e k t s' e'):=by
 have HLf:=fun W (s':ByteArray) (e':Int) (h':InAt W q s' e')=>hid (zfs W q s' e' h');have HEr:=fun W (s':ByteArray) (e':Int) (h':InAt W q s' e')=>hid (zgo W q s' e' h');have HFa:=fun W (s':ByteArray) (e' k':Int) (h':InAt W q s' e')=>hid (zfC W q s' e' k' h');have H:=hid h;clear h;by_cases h0:e=0
 ·subst h0
  by_cases hb:s.size<k
  ·have d0:decide ((s.size:Int)<k)=true:=decide_eq_true (by omega)
   have d0':decide (s.size<k)=true:=decide_eq_true hb;have HT:Hid (Took s 0 k ⟨#[]⟩ s 5):=.inl ⟨rfl,rfl,by decide,.inr hb⟩;clear hb;go_enter Tryz.func109,Tryz.ntmps109;go_wp2_with fail
   refine((HLf _ _ _ H.out).out).mono ?_;rintro e w1 ⟨rfl,x1⟩;have H1:=hid (H.out.ext x1);have K1:=hid (Keep.of_ext (S:=fun g=>g=q) x1);rw[show zdn s 0=(s.size:Int) from if_pos rfl];clear x1;go_wp2_with fail
   refine((HFa _ _ _ 5 H1.out).out).mono ?_;rintro e w2 ⟨rfl,k2,h2⟩;have H2:=hid h2;have K2:=hid (K1.out.trans k2);rw[show zgn 0 5=5 from rfl] at H2;clear k2 h2;go_wp2_with fail
   refine((HEr _ _ _ H2.out).out).mono ?_;rintro e w3 ⟨rfl,x3⟩;have H3:=hid (H2.out.ext x3);have K3:=hid (K2.out.ext x3);clear x3;go_wp2_with fail
   go_ret;exact⟨_,_,_,rfl,K3.out,H3.out,HT.out⟩
  ·have d0:decide ((s.size:Int)<k)=false:=decide_eq_false (by omega)
   have d0':decide (s.size<k)=false:=decide_eq_false hb;have hks:k≤s.size:=by omega
   have HT:Hid (Took s 0 k (s.extract 0 k) (s.extract k s.size) 0):=.inr ⟨rfl,hks,rfl,rfl,rfl⟩;clear hb;go_enter Tryz.func109,Tryz.ntmps109;go_wp2_with fail
   refine((HLf _ _ _ H.out).out).mono ?_;rintro e w1 ⟨rfl,x1⟩;have H1:=hid (H.out.ext x1);have K1:=hid (Keep.of_ext (S:=fun g=>g=q) x1);rw[show zdn s 0=(s.size:Int) from if_pos rfl];clear x1;go_wp2_with fail
   refine((HEr _ _ _ H1.out).out).mono ?_;rintro e w3 ⟨rfl,x3⟩;have H3:=hid (H1.out.ext x3);have K3:=hid (K1.out.ext x3);have hB:Blk w3 q 122 #[.string s,.int .i64 0]:=H3.out;have c0:=hB.cell (i:=0) (v:=.string s) rfl;have z0:=hB.frozen 0;have l0:=hB.lt;clear x3 hB;go_wp2_with fail
   go_ret;exact⟨_,_,_,rfl,K3.out.setCell (S:=fun g=>g=q) (p:=⟨q,0,none⟩) (.inl rfl) _,Blk.set H3.out 0 _,HT.out⟩
 ·have HT:Hid (Took s e k ⟨#[]⟩ s e):=.inl ⟨rfl,rfl,h0,.inl h0⟩
  have hd:(e != 0)=true:=by simp[h0]
  have hl:zdn s e=0:=if_neg h0;have hf:zgn e 5=e:=if_neg h0;have HL0:=fun W (h':InAt W q s e)=>HLf W s e h';have HF0:=fun W (h':InAt W q s e)=>HFa W s e 5 h';rw[hl] at HL0;rw[hf] at HF0;clear hl hf HLf HFa h0;rcases k with _ | k
  ·go_enter Tryz.func109,Tryz.ntmps109
   go_wp2_with fail
   refine((HL0 _ H.out).out).mono ?_;rintro e w1 ⟨rfl,x1⟩;have H1:=hid (H.out.ext x1);have K1:=hid (Keep.of_ext (S:=fun g=>g=q) x1);clear x1;go_wp2_with fail
   refine((HEr _ _ _ H1.out).out).mono ?_;rintro e w3 ⟨rfl,x3⟩;have H3:=hid (H1.out.ext x3);have K3:=hid (K1.out.ext x3);clear x3;go_wp2_with fail
   go_ret;exact⟨_,_,_,rfl,K3.out,H3.out,HT.out⟩
  ·have d0:decide ((0:Int)<(k:Int)+1)=true:=decide_eq_true (by omega)
   go_enter Tryz.func109,Tryz.ntmps109;go_wp2_with fail
   refine((HL0 _ H.out).out).mono ?_;rintro e w1 ⟨rfl,x1⟩;have H1:=hid (H.out.ext x1);have K1:=hid (Keep.of_ext (S:=fun g=>g=q) x1);clear x1;go_wp2_with fail
   refine((HF0 _ H1.out).out).mono ?_;rintro e w2 ⟨rfl,k2,h2⟩;have H2:=hid h2;have K2:=hid (K1.out.trans k2);clear k2 h2;go_wp2_with fail
   refine((HEr _ _ _ H2.out).out).mono ?_;rintro e w3 ⟨rfl,x3⟩;have H3:=hid (H2.out.ext x3);have K3:=hid (K2.out.ext x3);clear x3;go_wp2_with fail
   go_ret;exact⟨_,_,_,rfl,K3.out,H3.out,HT.out⟩
end
section
open Go.RowKit
theorem zjP {s:ByteArray} (h:1≤s.size):∃ c r,s.data.toList=c::r∧s.extract 0 1=⟨#[c]⟩∧(s.extract 1 s.size).data.toList=r:=by
 cases hl:s.data.toList with
 | nil=>
  have:s.data.toList.length=s.size:=by rw[Array.length_toList];rfl
  rw[hl] at this;simp at this;omega
 | cons c r=>
  have hlen:s.data.toList.length=s.size:=by rw[Array.length_toList];rfl
  have hd:s.data=(c::r).toArray:=by rw[←hl]
  refine⟨c,r,rfl,?_,?_⟩
  ·apply ByteArray.ext
   rw[ByteArray.data_extract,hd];simp
  ·rw[ByteArray.data_extract,hd]
   rw[hl] at hlen;rw[←hlen];simp
def Far (s:ByteArray) (e:Int) (i acc:Nat) (s':ByteArray) (e':Int):Prop:=
 ∀ n rest,e=0→n<9223372036854775808→s.data.toList=lebL n++rest → ∃ m,s'.data.toList=lebL m++rest∧Reads n i acc m∧e'=0
def Read (s:ByteArray) (e:Int) (z:Nat) (s':ByteArray) (e':Int):Prop:=
 ∀ n rest,e=0→n<9223372036854775808→s.data.toList=lebL n++rest→z=n∧s'.data.toList=rest∧e'=0
theorem zed {m:Nat} {c:UInt8} {r rest:List UInt8} (h:c::r=lebL m++rest):(127<m∧c=UInt8.ofNat (m%128+128)∧r=lebL (m/128)++rest)∨(m≤127∧c=UInt8.ofNat m∧r=rest):=by
 by_cases hm:127<m
 ·rw[zcD hm,List.cons_append] at h
  injection h with h1 h2
  exact .inl ⟨hm,h1,h2⟩
 ·rw[zaz (by omega),List.cons_append,List.nil_append] at h
  injection h with h1 h2
  exact .inr ⟨by omega,h1,h2⟩
theorem zfB {acc i:Nat} (h:acc<128^i) (c:Nat):acc+c%128*128^i<128^(i+1):=by
 have h2:c%128<128:=Nat.mod_lt _ (by omega);have h3:c%128*128^i≤127*128^i:=Nat.mul_le_mul_right _ (by omega);rw[Nat.pow_succ];omega
theorem zg2 {z i:Nat} (h:z<128^(i+1)) (hi:i<9):z<9223372036854775808:=by
 have h1:(128:Nat)^(i+1)≤128^9:=Nat.pow_le_pow_right (by omega) (by omega);have:(128:Nat)^9=9223372036854775808:=by decide
 omega
theorem zjA {acc i:Nat} (h:acc<128^i) (hi:i<9) (c:Nat):bits .or .i64 (acc:Int) (wrap64 ((c:Int)%128*2^(7*i)))=((acc+c%128*128^i:Nat):Int):=by
 have e1:wrap64 ((c:Int)%128*2^(7*i))=((c%128*128^i:Nat):Int):=by
  have:=zjY (m:=c%128) (i:=i) (Nat.mod_lt _ (by omega)) hi;rw[show(7*(i:Int)).toNat=7*i by omega] at this;rw[show((c:Int)%128)=((c%128:Nat):Int) by omega];rw[IntKind.wrap_i64] at this;unfold wrap64;rw[←this]
 rw[e1,zil (by rw[zhx h];exact zg2 (zfB h c) hi),zhx h]
theorem n_c (w:World) (q:Nat) (s:ByteArray) (e:Int) (h:InAt w q s e) (hs:s.size≤1000000):Calls Tryz.prog 64 #[.pointer (some ⟨q,0,none⟩)] w (fun en w'=>∃ (z:Nat) (s':ByteArray) (e':Int),en=.returned (.int .i64 z)∧z<9223372036854775808∧Keep (fun g=>g=q) w w'∧InAt w' q s' e'∧s'.size≤s.size∧Read s e z s' e'):=by
 have HTk:=fun W (s':ByteArray) (e':Int) (h':InAt W q s' e') (hs':s'.size≤1000000)=>hid (zli W q s' e' 1 h' hs' (by omega));have HFa:=fun W (s':ByteArray) (e' k':Int) (h':InAt W q s' e')=>hid (zfC W q s' e' k' h');have H:=hid h;clear h;go_enter Tryz.func64,Tryz.ntmps64;go_wp2_with fail
 go_loopw [3,9] (fun s3 s9 wr=>∃ (i acc:Nat) (s':ByteArray) (e':Int),i≤9∧s9=.int .i64 i∧s3=.int .i64 acc∧acc<128^i∧Hid (Keep (fun g=>g=q) w wr)∧Hid (InAt wr q s' e')∧s'.size≤s.size∧Hid (Far s e i acc s' e')) (fun _ s9 _=>9-(intOf s9).toNat)
 case atStart=>exact⟨0,0,s,e,by omega,rfl,rfl,by omega,Keep.refl _ _,H.out,Nat.le_refl _,fun n rest h0 h1 h2=>⟨n,h2,Reads.start n,h0⟩⟩
 case round=>
  obtain⟨i,acc,s',e',hi,rfl,rfl,hacc,HK,HI,hs',HFar⟩:=hrel;clear H;by_cases h9:i<9
  ·have d9:decide ((i:Int)<9)=true:=decide_eq_true (by omega)
   have d9':decide (i<9)=true:=decide_eq_true h9;go_wp2_with fail
   refine((HTk _ _ _ HI.out (by omega)).out).mono ?_;rintro en w2 ⟨t,s2,e2,rfl,k2,h2,ht⟩;have HK2:=hid (HK.out.trans k2);have HI2:=hid h2;clear k2 h2 HTk;rcases ht with⟨rfl,rfl,he2,hw⟩ | ⟨rfl,h1,rfl,rfl,rfl⟩
   ·have HR:Hid (Read s e 0 s2 e2):=fun n rest a0 a1 a2=>by
     obtain⟨m,b1,_,b3⟩:=HFar.out n rest a0 a1 a2;have hl:s2.data.toList.length=s2.size:=by rw[Array.length_toList];rfl
     rw[b1,List.length_append] at hl;have:=zcg m;rcases hw with hw | hw
     ·exact absurd b3 hw
     ·omega
    clear hw;go_wp2_with fail
    go_ret;exact⟨0,_,_,rfl,by omega,HK2.out,HI2.out,hs',HR.out⟩
   ·obtain⟨c,r,c1,c2,c3⟩:=zjP h1
    rw[c2];have hs2:(s'.extract 1 s'.size).size≤s.size:=by
     rw[ByteArray.size_extract];omega
    have hget:(⟨#[c]⟩:ByteArray)[0]'(by show(0:Nat)<1;omega)=c:=rfl;have hor:=zjA (acc:=acc) (i:=i) hacc h9 c.toNat;have HOr:=hid hor;have hnew:=zfB hacc c.toNat;have HNew:=hid hnew;clear hor hnew c2 h1;generalize s'.extract 1 s'.size=s2 at HI2 c3 hs2;by_cases hb:128≤c.toNat
    ·have HF2:Hid (Far s e (i+1) (acc+c.toNat%128*128^i) s2 0):=fun n rest a0 a1 a2=>by
      obtain⟨m,b1,b2,_⟩:=HFar.out n rest a0 a1 a2;rw[c1] at b1;rcases zed b1 with⟨m1,m2,m3⟩ | ⟨m1,m2,m3⟩
      ·refine⟨m/128,by rw[c3,m3],?_,rfl⟩
       have e1:c.toNat%128=m%128:=by rw[m2,UInt8.toNat_ofNat'];omega
       rw[e1];exact b2.step m1
      ·exfalso
       rw[m2,UInt8.toNat_ofNat'] at hb;omega
     have db:decide ((128:Int)≤c.toNat)=true:=decide_eq_true (by omega);clear c1 c3 HFar HI;generalize hcn:c.toNat=cn at *;clear hb;go_wp2_with fail
     go_roundw
     case rel=>exact⟨i+1,_,s2,0,by omega,by go_num,by rw[HOr.out],HNew.out,HK2.out,HI2.out,hs2,HF2.out⟩
     case measure=>simp[intOf];omega
    ·have db:decide ((128:Int)≤c.toNat)=false:=decide_eq_false (by omega)
     by_cases hz:c.toNat=0∧0<i
     ·have HR:Hid (∀ z2 s3 e3,Read s e z2 s3 e3):=fun z2 s3 e3 n rest a0 a1 a2=>by
       obtain⟨m,b1,b2,_⟩:=HFar.out n rest a0 a1 a2;rw[c1] at b1
       exfalso
       rcases zed b1 with⟨m1,m2,m3⟩ | ⟨m1,m2,m3⟩
       ·have h3:=hz.1
        rw[m2,UInt8.toNat_ofNat'] at h3;omega
       ·have h3:=hz.1
        rw[m2,UInt8.toNat_ofNat'] at h3;have:=b2.one hz.2;omega
      obtain⟨hz1,hz2⟩:=hz;have dz:((c.toNat:Int)==0)=true:=by simp[hz1]
      have di:decide ((0:Int)<i)=true:=decide_eq_true (by omega);have di':decide (0<i)=true:=decide_eq_true hz2;clear c1 c3 HFar HI hz1 hz2 HOr;generalize hcn:c.toNat=cn at *;clear hb;go_wp2_with fail
      refine((HFa _ _ _ 6 HI2.out).out).mono ?_;rintro en w3 ⟨rfl,k3,h3⟩;have HK3:=hid (HK2.out.trans k3);have HI3:=hid h3;clear k3 h3;go_wp2_with fail
      go_ret;exact⟨0,_,_,rfl,by omega,HK3.out,HI3.out,hs2,HR.out _ _ _⟩
     ·have HR:Hid (Read s e (acc+c.toNat%128*128^i) s2 0):=fun n rest a0 a1 a2=>by
       obtain⟨m,b1,b2,_⟩:=HFar.out n rest a0 a1 a2;rw[c1] at b1;rcases zed b1 with⟨m1,m2,m3⟩ | ⟨m1,m2,m3⟩
       ·exfalso
        have h3:=hb;rw[m2,UInt8.toNat_ofNat'] at h3;omega
       ·have e1:c.toNat%128=m:=by rw[m2,UInt8.toNat_ofNat'];omega
        exact⟨by rw[e1];exact b2.stop,by rw[c3,m3],rfl⟩
      have h63:acc+c.toNat%128*128^i<9223372036854775808:=zg2 HNew.out h9;have H63:=hid h63;clear h63 c1 c3 HFar HI;have dzi:((c.toNat:Int)==0)=false∨decide (0<i)=false:=by
       by_cases h3:c.toNat=0
       ·exact .inr (decide_eq_false fun h4=>hz ⟨h3,h4⟩)
       ·exact .inl (by simp;omega)
      clear hz;generalize hcn:c.toNat=cn at *;clear hb;cases dz:((cn:Int)==0) with
      | false=>
       go_wp2_with fail
       go_ret;exact⟨_,_,_,by rw[←HOr.out];rfl,H63.out,HK2.out,HI2.out,hs2,HR.out⟩
      | true=>
       have di:decide (0<i)=false:=by
        rcases dzi with h3 | h3
        ·rw[dz] at h3;cases h3
        ·exact h3
       have di':decide ((0:Int)<i)=false:=decide_eq_false (by have:=of_decide_eq_false di;omega);clear dzi;go_wp2_with fail
       go_ret;exact⟨_,_,_,by rw[←HOr.out];rfl,H63.out,HK2.out,HI2.out,hs2,HR.out⟩
  ·obtain rfl:i=9:=by omega
   have HR:Hid (∀ z2 s3 e3,Read s e z2 s3 e3):=fun z2 s3 e3 n rest a0 a1 a2=>by
    obtain⟨m,b1,b2,_⟩:=HFar.out n rest a0 a1 a2;have:=b2.lt a1 (by omega);omega
   clear HFar HTk;go_wp2_with fail
   refine((HFa _ _ _ 6 HI.out).out).mono ?_;rintro en w3 ⟨rfl,k3,h3⟩;have HK3:=hid (HK.out.trans k3);have HI3:=hid h3;clear k3 h3;go_wp2_with fail
   go_ret;exact⟨0,_,_,rfl,by omega,HK3.out,HI3.out,hs',HR.out _ _ _⟩
def zbZ (s:ByteArray) (e:Int) (t s':ByteArray) (e':Int):Prop:=
 ∀ (x:ByteArray) (rest:List UInt8),e=0→s.data.toList=lebL x.size++(x.data.toList++rest)→t=x∧s'.data.toList=rest∧e'=0
theorem zmk {s x:ByteArray} {rest:List UInt8} (h:s.data.toList=x.data.toList++rest):x.size≤s.size∧s.extract 0 x.size=x∧(s.extract x.size s.size).data.toList=rest:=by
 have hl:s.data.toList.length=s.size:=by rw[Array.length_toList];rfl
 have hx:x.data.toList.length=x.size:=by rw[Array.length_toList];rfl
 have hd:s.data=(x.data.toList++rest).toArray:=by rw[←h]
 rw[h,List.length_append,hx] at hl;refine⟨by omega,?_,?_⟩
 ·apply ByteArray.ext
  apply Array.ext';rw[ByteArray.data_extract,Array.toList_extract,h,List.extract_eq_take_drop,List.drop_zero,Nat.sub_zero,←hx,List.take_left'];rfl
 ·rw[ByteArray.data_extract,Array.toList_extract,h,List.extract_eq_take_drop,←hx,List.drop_left' rfl,hx,←hl]
  rw[List.take_of_length_le (by omega)]
theorem t_c (w:World) (q:Nat) (s:ByteArray) (e:Int) (h:InAt w q s e) (hs:s.size≤1000000):Calls Tryz.prog 60 #[.pointer (some ⟨q,0,none⟩)] w (fun en w'=>∃ (t s':ByteArray) (e':Int),en=.returned (.string t)∧t.size≤s.size∧Keep (fun g=>g=q) w w'∧InAt w' q s' e'∧s'.size≤s.size∧zbZ s e t s' e'):=by
 have HN:=hid (n_c w q s e h hs);have HTk:=fun W (s':ByteArray) (e':Int) (z:Nat) (h':InAt W q s' e') (hs':s'.size≤1000000) (hz:z≤9223372036854775807)=>hid (zli W q s' e' z h' hs' hz);clear h;go_enter Tryz.func60,Tryz.ntmps60;go_wp2_with fail
 refine(HN.out).mono ?_;rintro en w1 ⟨z,s1,e1,rfl,hz,k1,h1,hs1,hr1⟩;have HK1:=hid k1;have HI1:=hid h1;have HR1:=hid hr1;clear k1 h1 hr1 HN;go_wp2_with fail
 refine((HTk _ _ _ z HI1.out (by omega) (by omega)).out).mono ?_;rintro en w2 ⟨t,s2,e2,rfl,k2,h2,ht⟩;have HK2:=hid (HK1.out.trans k2);have HI2:=hid h2;clear k2 h2 HTk;have ht1:t.size≤s.size∧s2.size≤s.size:=by
  rcases ht with⟨rfl,rfl,_,_⟩ | ⟨_,h1,rfl,rfl,_⟩
  ·exact⟨Nat.zero_le _,hs1⟩
  ·rw[ByteArray.size_extract,ByteArray.size_extract]
   omega
 have HR:Hid (zbZ s e t s2 e2):=fun x rest a0 a1=>by
  have hx:x.size≤s.size:=by
   have hl:s.data.toList.length=s.size:=by rw[Array.length_toList];rfl
   have hx:x.data.toList.length=x.size:=by rw[Array.length_toList];rfl
   rw[a1,List.length_append,List.length_append,hx] at hl;omega
  obtain⟨b1,b2,b3⟩:=HR1.out x.size _ a0 (by omega) a1;obtain⟨c1,c2,c3⟩:=zmk b2;subst b1;rcases ht with⟨_,_,_,h4⟩ | ⟨_,_,rfl,rfl,rfl⟩
  ·rcases h4 with h4 | h4
   ·exact absurd b3 h4
   ·omega
  ·exact⟨c2,c3,rfl⟩
 obtain⟨ht1,ht2⟩:=ht1;clear ht HR1;go_wp2_with fail
 go_ret;exact⟨_,_,_,rfl,ht1,HK2.out,HI2.out,ht2,HR.out⟩
end
section
open Go.RowKit
theorem zbP (w:World) (s:ByteArray):Calls Tryz.prog 25 #[.string s] w (RetQ (fun v w'=>∃ q,v=.pointer (some ⟨q,0,none⟩)∧w.heap.size≤q∧InAt w' q s 0) w):=by
 have HB:=hid (Blk.new w 122 #[.string s,.int .i64 0]);have HE:=hid (Ext.alloc w (.cells #[.string s,.int .i64 0] 122));go_enter Tryz.func25,Tryz.ntmps25;go_wp2_with fail
 go_ret;exact⟨_,rfl,⟨_,rfl,Nat.le_refl _,HB.out⟩,HE.out⟩
end
section
open Go.RowKit
def MidB (B:Nat) (v:Value) (acc full:List UInt8) (a b:World):Prop:=
 Keep (fun g=>v.ownBlock=some g) a b∧(B≤a.heap.size→(∀ u,OwnB full B u a→OwnB full B u b)∧(OwnB acc B v a→OwnB acc B v b))
theorem MidB.ofExt (B:Nat) (v:Value) (acc full:List UInt8) (a b:World) (h:Ext a b):MidB B v acc full a b:=⟨Keep.of_ext h,fun _=>⟨fun _ hu=>hu.ext h,fun hv=>hv.ext h⟩⟩
abbrev Rel.mid (B:Nat) (v:Value) (acc full:List UInt8):Rel:=⟨MidB B v acc full,fun w=>MidB.ofExt _ _ _ _ w w (Ext.refl w),fun _ _ _ h k=>⟨h.1.trans k.1,fun hB=>⟨fun u hu=>(k.2 (Nat.le_trans hB h.1.size)).1 u ((h.2 hB).1 u hu),fun hv=>(k.2 (Nat.le_trans hB h.1.size)).2 ((h.2 hB).2 hv)⟩⟩,MidB.ofExt B v acc full⟩
theorem OwnB.app2 {l m:List UInt8} {B:Nat} {v u:Value} {w:World} {tx:TypeId} (h:OwnB l B v w) (hB:B≤w.heap.size) (hs:Src Tryz.prog 1 tx u m.length (m.map za4).flatten w) (hl:l.length≤1000000) (hml:m.length≤1000000):∃ v' w',(Builtin.append_ #[48,tx] 48 #[v,u]).run Tryz.prog w=.ok v' w'∧OwnB (l++m) B v' w'∧MidB B v l (l++m) w w'∧(v'.ownBlock=v.ownBlock ∨ ∀ q,v'.ownBlock=some q→w.heap.size≤q):=by
 obtain⟨v',w',hr,ho,hk,hb9⟩:=h.app hB hs hl hml;refine⟨v',w',hr,ho,⟨hk,fun _=>?_⟩,hb9⟩;rcases h.2.2 with⟨rfl,h0⟩ | ⟨g,cap,cs,rfl,hb,hg,h3,h4,h5,h6⟩
 ·have hx:Ext w w':=hk.toExt (Ext.refl _) fun q hq=>by cases hq
  exact⟨fun _ hu=>hu.ext hx,fun hv=>hv.ext hx⟩
 ·obtain⟨i,z,hi,hz,h1,h2,hzs⟩:=zes.2
  have hown:Own B 5 1 l.length (l.map za4).flatten (.slice (some ⟨g,0,none⟩) l.length cap) w:=⟨hB,h.2.1,g,cap,cs,rfl,hb,hg,h3,h4,h5,h6⟩
  obtain⟨v2,w2,hr2,_,hf⟩:=zjk (P:=Tryz.prog) (ty:=48) Tryz.underlying48 hi hz h1 h2 hzs hown rfl hs (by unfold maxLen;omega) (by omega);rw[hr] at hr2;injection hr2 with e1 e2
  subst e1 e2;obtain⟨_,hf⟩:=hf hB;have hfull:((l++m).map za4).flatten=(l.map za4).flatten++(m.map za4).flatten:=by rw[List.map_append,List.flatten_append]
  have hfl:((l++m).map za4).flatten.length=(l++m).length*1:=byte_coded.flat_len _
  constructor
  ·rintro u ⟨hu1,hu2,hu3⟩
   refine⟨hu1,hu2,?_⟩;rcases hu3 with hu3 | ⟨g',cap',cs',rfl,hb',hg',a3,a4,a5,a6⟩
   ·exact .inl hu3
   ·obtain⟨cs2,b1,b2,_,b4⟩:=hf g' _ cs' hb' hg'
    refine .inr ⟨g',cap',cs2,rfl,hb',b1,a3,a4,b2.trans a5,?_⟩;rw[←hfull,hfl] at b4;exact b4 a6
  ·rintro⟨hu1,hu2,_⟩
   obtain⟨cs2,b1,b2,b3,_⟩:=hf g _ cs hb hg;refine⟨hu1,hu2,.inr ⟨g,cap,cs2,rfl,hb,b1,h3,h4,b2.trans h5,?_⟩⟩;rw[b3];exact h6
theorem AWk.two {P:Program} {ops:Array Oper} {M:Rel} {F:World→Prop} {a0:Act} {Q:Exit→Act→World→Prop} {b:Act} {A:Anys} {z1 z2:Oper} (hs:b.tmps.size=a0.tmps.size) (hd:b.defers=a0.defers) (hk:zdO b.tmps.size A=true)
  (h:∀ w,F w→zl (wpList P ops Q [z1,z2]) w A b):AWk P ops M F (zc2 P ops F a0 Q z1 z2) [] b A:=
 fun a w he hsz hdf hsl=>zaD A b hk (by rw[hs,hsz]) (by rw[hd,hdf]) (fun t ht=>hsl t (by rw[←hs];exact ht)) (h w he)
theorem zeR {P:Program} {a0:Act} {id:Nat} {L pre:List Oper} {z1 z2:Oper} {Q:Exit→Act→World→Prop} {w:World} (M:Rel) (F:World→Prop) (hpre:L.dropLast.dropLast=pre) (hz1:L.dropLast.getLast? = some z1) (hz2:L.getLast? = some z2) (hF:zae M F) (hF0:F w.drew) (hm:P.follows .mixedOrders=true) (hg:zaV L.toArray a0.tmps.size=true) (hlk:zbi L.toArray a0.tmps.size=true)
  (hl1:za3 L.toArray (L.length-2)=true) (hl2:za3 L.toArray (L.length-1)=true)
  (h:AWk P L.toArray M F (zc2 P L.toArray F a0 Q z1 z2) pre a0 []):(Code.region id L.toArray true).wp P Q a0 w:=by
 have tail:∀ {A:List Oper} {z:Oper},A.getLast? = some z→A=A.dropLast++[z]:=fun {A z} hz=>by
  have hne:A≠[]:=by rintro rfl;cases hz
  rw[List.getLast?_eq_some_getLast hne] at hz;injection hz with hz
  rw[←hz,List.dropLast_concat_getLast hne]
 have hL:L=pre++[z1,z2]:=by
  have h1:=tail hz1;rw[hpre] at h1;have h2:=tail hz2;rw[h1] at h2;simpa using h2
 subst hL;have e1:(pre++[z1,z2]).length-2=pre.length:=by simp
 have e2:(pre++[z1,z2]).length-1=pre.length+1:=by simp
 rw[e1] at hl1;rw[e2] at hl2;exact zcu M F hF hF0 hm hg hlk hl1 hl2 h
end
section
open Go.RowKit
theorem zf1 {w:World} {B B':Nat} {e:TypeId} {sz:Nat} {v:Value} {n:Nat} {xs:List Value} (h:w.ownsRow B e sz v n xs) (hB:B'≤B):w.ownsRow B' e sz v n xs:=zY h hB
theorem putT_c (w:World) (q B:Nat) (n:Int) (s:ByteArray) (acc:List UInt8) (A:Option Addr) (c:Nat) (hq:Blk w q 48 #[.slice A acc.length c]) (hO:OwnB acc B (.slice A acc.length c) w) (hB:B≤w.heap.size) (hqn:(Value.slice A acc.length c).ownBlock≠some q) (hl:acc.length≤65536) (hs:s.size≤65536):Calls Tryz.prog 89 #[.agg #[.int .i64 n,.string s,.bool true],.pointer (some ⟨q,0,none⟩)] w (fun en w'=>en=.returned (.tuple #[]) ∧ ∃ v',Blk w' q 48 #[v']∧OwnB (acc++(lebL s.size++s.data.toList)) B v' w'∧v'.ownBlock≠some q∧Keep (fun g=>g=q∨(Value.slice A acc.length c).ownBlock=some g) w w'):=by
 have HF1:=hid (Blk.new w 140 #[.int .i64 n,.string s,.bool true]);have HQ1:=hid (hq.alloc (.cells #[.int .i64 n,.string s,.bool true] 140));have HO1:=hid (hO.ext (Ext.alloc w (.cells #[.int .i64 n,.string s,.bool true] 140)));have X1:=hid (Ext.alloc w (.cells #[.int .i64 n,.string s,.bool true] 140));have HOw:Hid (∀ g,(Value.slice A acc.length c).ownBlock=some g→g<w.heap.size):=fun g hg=>(zt hO.2 g hg).2;have HQn:=hid hqn;have hcap:acc.length≤c∧c≤9223372036854775807:=by
  obtain⟨A',c',hv,h1,h2,_⟩:=zr (code:=za4) hO.sl;injection hv with _ _ hc
  subst hc;unfold maxLen at h2;exact⟨h1,by omega⟩
 obtain⟨hc1,hc2⟩:=hcap;have d0:decide ((65536:Int)<acc.length)=false:=decide_eq_false (by omega);have d0':decide (65536<acc.length)=false:=decide_eq_false (by omega);have q0:=HQ1.out.cell (i:=0) (v:=.slice A acc.length c) rfl;have ql:=HQ1.out.lt;have hql:=hq.lt;have f2:=HF1.out.cell (i:=2) (v:=.bool true) rfl;have fl:=HF1.out.lt;have HW:=hid hB;clear hq hO hB hqn;go_enter Tryz.func89,Tryz.ntmps89;go_wp2_with fail
 clear q0 ql f2 fl;generalize hw1:w.alloc (.cells #[.int .i64 n,.string s,.bool true] 140)=w1 at HF1 HQ1 HO1 X1⊢;have hs1:w1.heap.size=w.heap.size+1:=by rw[←hw1,World.size_alloc]
 clear hw1;generalize hgf:w.heap.size=gf at HF1 HOw hql⊢;have hmn:min (s.size:Int) 65536=(s.size:Int):=by omega
 have HN:=fun W=>hid (zhB W s.size (by omega));have hnl:=zb1 (n:=s.size) (by omega);have HB1:Hid (B≤w1.heap.size):=by have:=HW.out;unfold Hid;omega
 have HC:Hid (∀ W,(Keep (fun g=>(Value.slice A acc.length c).ownBlock=some g) w1 W∧OwnB acc B (.slice A acc.length c) W)→Blk W gf 140 #[.int .i64 n,.string s,.bool true]∧Blk W q 48 #[.slice A acc.length c]∧w1.heap.size≤W.heap.size):=fun W hW=>
  ⟨HF1.out.keep hW.1 (fun h=>by have:=HOw.out _ h;omega),HQ1.out.keep hW.1 (fun h=>HQn.out h),hW.1.size⟩
 generalize hnum:lebL s.size=num at HN hnl;refine zeR (Rel.mid B (.slice A acc.length c) acc (acc++num)) (fun W=>Keep (fun g=>(Value.slice A acc.length c).ownBlock=some g) w1 W∧OwnB acc B (.slice A acc.length c) W) (pre:=?preK) (z1:=?z1K) (z2:=?z2K) ?hpreK ?hz1K ?hz2K ?hFK ?hF0K (by kernel_rfl) (by kernel_rfl) (by kernel_rfl) (by kernel_rfl) (by kernel_rfl) ?_
 case hpreK=>(simp only[List.dropLast_cons_cons,List.dropLast_singleton];first | done | exact rfl)
 case hz1K=>(simp only[List.dropLast_cons_cons,List.dropLast_singleton,List.getLast?_cons_cons,List.getLast?_singleton];first | done | exact rfl)
 case hz2K=>(simp only[List.getLast?_cons_cons,List.getLast?_singleton];first | done | exact rfl)
 case hFK=>exact fun a b h ⟨k,o⟩=>⟨k.trans h.1,(h.2 (by have:=HB1.out;have:=k.size;omega)).2 o⟩
 case hF0K=>exact⟨Keep.of_ext (Ext.drew w1),HO1.out.ext (Ext.drew _)⟩
 repeat (first
  | (refine AWk.valE rfl rfl rfl rfl ?_;apply Exists.intro;refine And.intro (fun wc hc=>?_) ?_;(· (obtain⟨bF,bQ,_⟩:=HC.out wc hc;have r0:=bF.cell (i:=1) (v:=.string s) rfl;have r1:=bF.lt;have r2:=bQ.cell (i:=0) (v:=.slice A acc.length c) rfl;have r3:=bQ.lt;clear bF bQ hc;go_simp;dsimp only[Gives];exact⟨rfl,rfl⟩));simp only[Act.put,zq6,zq7,zq8])
  | (refine AWk.callQ (fun u W=>OwnB num w1.heap.size u W) (fun u a b h hu=>⟨hu.1,zq hu.2 h.1 (fun g hg hS=>by have h1:=(zt hu.2 g hg).1;have h2:=HOw.out g hS;omega)⟩) rfl Tryz.func90 (by kernel_rfl) (by kernel_rfl) rfl rfl rfl (fun wc hc=>?_) ?_;(· (simp only[zh,zm,↓reduceIte,Nat.reduceEqDiff,zq1,zq2,zq3,zq4,zq5];exact((HN wc).out).mono fun e w' ⟨v,e1,e2,e3⟩=>⟨v,e1,⟨e2.1,zf1 e2.2 hc.1.size⟩,e3⟩)))
  | (refine AWk.opQ (fun u W=>B≤W.heap.size∧OwnB (acc++num) B u W ∧ ∀ g,u.ownBlock=some g→(Value.slice A acc.length c).ownBlock=some g∨w1.heap.size≤g) (fun u a b h hu=>⟨Nat.le_trans hu.1 h.1.size,(h.2 hu.1).1 u hu.2.1,hu.2.2⟩) rfl (fun a wc hc hl'=>⟨rfl,?_⟩) ?_;(· (have e15:a.tmps.getD 15 undef=.slice A acc.length c:=hl' 15 (of_decide_eq_true (by kernel_rfl));have e19:OwnB num w1.heap.size (a.tmps.getD 19 undef) wc:=hl' 19 (of_decide_eq_true (by kernel_rfl));have hBc:B≤wc.heap.size:=by { have:=HB1.out;have:=hc.1.size;omega };obtain⟨v',w',hr',hO',hM',hb'⟩:=hc.2.app2 hBc (zcy Tryz.underlying48 byte_coded e19.sl (Ext.refl wc)) (by omega) (by omega);exact zeg (a:=a) (s:=.tmp 15) (x:=.tmp 19) rfl e15 rfl hr' ⟨⟨Nat.le_trans hBc hM'.1.size,hO',fun g hg=>by { rcases hb' with hb' | hb';{ exact .inl (by rw[←hb'];exact hg) };{ have h1:=hb' g hg;have h2:=hc.1.size;exact .inr (by omega) } }⟩,hM'⟩))))
 refine AWk.two rfl rfl rfl (fun w2 h2=>?_);simp only[zl,Act.put,zq6,zq7,zq8];intro v20 h20 v19 h19;clear h19;obtain⟨g1,g2,g3⟩:=h20;have hql2:q<w2.heap.size:=(HC.out w2 h2).2.1.lt;have hw2:=(HC.out w2 h2).2.2;have bq2:=(HC.out w2 h2).2.1;have hex:s.extract 0 s.size=s:=by
  apply ByteArray.ext;rw[ByteArray.data_extract];exact Array.extract_size
 have hsl:s.data.toList.length=s.size:=by rw[Array.length_toList];rfl
 obtain⟨v3,w3,hrun,hO3,hk3,hb3⟩:=g2.app g1 (ze1 w2 s) (by rw[List.length_append];omega) (by rw[hsl];omega);obtain⟨A3,c3,rfl,_⟩:=zr (code:=za4) hO3.sl;generalize hN3:((acc++num)++s.data.toList).length=N3 at hrun hO3 hb3;clear hN3;have hq20:v20.ownBlock≠some q:=fun h=>by
  rcases g3 q h with h | h
  ·exact HQn.out h
  ·omega
 have bq3:Blk w3 q 48 #[.slice A acc.length c]:=bq2.keep hk3 hq20;have hq3:(Value.slice A3 N3 c3).ownBlock≠some q:=fun h=>by
  rcases hb3 with hb3 | hb3
  ·exact hq20 (by rw[←hb3];exact h)
  ·have:=hb3 q h
   omega
 have HEnd:Hid (Blk (w3.setCell ⟨q,0,none⟩ (.slice A3 N3 c3)) q 48 #[.slice A3 N3 c3]∧OwnB (acc++(num++s.data.toList)) B (.slice A3 N3 c3) (w3.setCell ⟨q,0,none⟩ (.slice A3 N3 c3))∧(Value.slice A3 N3 c3).ownBlock≠some q∧Keep (fun g=>g=q∨(Value.slice A acc.length c).ownBlock=some g) w (w3.setCell ⟨q,0,none⟩ (.slice A3 N3 c3))):=by
  have k4:Keep (fun g=>g=q) w3 (w3.setCell ⟨q,0,none⟩ (.slice A3 N3 c3)):=Keep.setCell (S:=fun g=>g=q) (Keep.refl _ _) (p:=⟨q,0,none⟩) (.inl rfl) _;refine⟨bq3.set 0 _,?_,hq3,?_⟩
  ·have h9:OwnB (acc++(num++s.data.toList)) B (.slice A3 N3 c3) w3:=by
    have e9:(acc++num)++s.data.toList=acc++(num++s.data.toList):=List.append_assoc _ _ _;rw[←e9];exact hO3
   exact⟨h9.1,zq h9.2 k4 fun g hg hS=>hq3 (by rw[hg,hS])⟩
  ·have k1:=Keep.of_ext (S:=fun g=>g=q∨(Value.slice A acc.length c).ownBlock=some g) X1.out
   have k2:Keep (fun g=>g=q∨(Value.slice A acc.length c).ownBlock=some g) w1 w2:=h2.1.mono fun g hg=>.inr hg;refine⟨k4.os.trans (hk3.os.trans (k1.trans k2).os),k4.tape.trans (hk3.tape.trans (k1.trans k2).tape),k4.output.trans (hk3.output.trans (k1.trans k2).output),Nat.le_trans (k1.trans k2).size (Nat.le_trans hk3.size k4.size),fun k hk hn=>?_⟩;have h12:=(k1.trans k2).block k hk hn;have hkw:k<w2.heap.size:=Nat.lt_of_lt_of_le hk (k1.trans k2).size;have h23:=hk3.block k hkw fun h=>by
    rcases g3 k h with h | h
    ·exact hn (.inr h)
    ·omega
   have h34:=k4.block k (Nat.lt_of_lt_of_le hkw hk3.size) fun h=>hn (.inl h);exact h34.trans (h23.trans h12)
 have b0:=bq3.cell (i:=0) (v:=.slice A acc.length c) rfl;have z0:=bq3.frozen 0;have l0:=bq3.lt;clear hex;clear bq2 bq3 hO3 hk3 hb3 g2 g3 h2 HC HF1 HQ1 HO1 HN
 at_builtin
 refine zx rfl (.tmp 20) (.tmp 27) _ _ rfl rfl rfl hrun ?_;go_wp2_with fail
 go_end0
 refine⟨rfl,.slice A3 N3 c3,?_⟩;rw[hnum];exact HEnd.out
end
section
open Go.RowKit
theorem putN_c (w:World) (q B:Nat) (n:Nat) (s:ByteArray) (acc:List UInt8) (A:Option Addr) (c:Nat) (hn:n<9223372036854775808) (hq:Blk w q 48 #[.slice A acc.length c]) (hO:OwnB acc B (.slice A acc.length c) w) (hB:B≤w.heap.size) (hqn:(Value.slice A acc.length c).ownBlock≠some q) (hl:acc.length≤65536):Calls Tryz.prog 89 #[.agg #[.int .i64 n,.string s,.bool false],.pointer (some ⟨q,0,none⟩)] w (fun en w'=>en=.returned (.tuple #[]) ∧ ∃ v',Blk w' q 48 #[v']∧OwnB (acc++lebL n) B v' w'∧v'.ownBlock≠some q∧Keep (fun g=>g=q∨(Value.slice A acc.length c).ownBlock=some g) w w'):=by
 have HF1:=hid (Blk.new w 140 #[.int .i64 n,.string s,.bool false]);have HQ1:=hid (hq.alloc (.cells #[.int .i64 n,.string s,.bool false] 140));have HO1:=hid (hO.ext (Ext.alloc w (.cells #[.int .i64 n,.string s,.bool false] 140)));have X1:=hid (Ext.alloc w (.cells #[.int .i64 n,.string s,.bool false] 140));have HOw:Hid (∀ g,(Value.slice A acc.length c).ownBlock=some g→g<w.heap.size):=fun g hg=>(zt hO.2 g hg).2;have HQn:=hid hqn;have hcap:acc.length≤c∧c≤9223372036854775807:=by
  obtain⟨A',c',hv,h1,h2,_⟩:=zr (code:=za4) hO.sl;injection hv with _ _ hc
  subst hc;unfold maxLen at h2;exact⟨h1,by omega⟩
 obtain⟨hc1,hc2⟩:=hcap;have d0:decide ((65536:Int)<acc.length)=false:=decide_eq_false (by omega);have d0':decide (65536<acc.length)=false:=decide_eq_false (by omega);have hql:=hq.lt;have HW:=hid hB;have HN:=fun W=>hid (zhB W n hn);have hnl:=zb1 hn;generalize hnum:lebL n=num at HN hnl;have HNum:=hid hnum;clear hq hO hB hqn hnum;generalize hw1:w.alloc (.cells #[.int .i64 n,.string s,.bool false] 140)=w1 at HF1 HQ1 HO1 X1;have hs1:Hid (w1.heap.size=w.heap.size+1):=by unfold Hid;rw[←hw1,World.size_alloc]
 have HW1:=hid hw1;clear hw1;have q0:=HQ1.out.cell (i:=0) (v:=.slice A acc.length c) rfl;have ql:=HQ1.out.lt;have f0:=HF1.out.cell (i:=0) (v:=.int .i64 n) rfl;have f2:=HF1.out.cell (i:=2) (v:=.bool false) rfl;have fl:=HF1.out.lt;go_enter Tryz.func89,Tryz.ntmps89;rw[←HW1.out] at q0 ql f0 f2 fl;go_wp2_with fail
 rw[HW1.out] at q0 ql f0 f2 fl⊢;refine zbj (pre:=?pre12) (z1:=?z112) (z2:=?z212) ?hpre12 ?hz112 ?hz212 (by kernel_rfl) (by kernel_rfl) (by kernel_rfl) (by kernel_rfl) (by kernel_rfl) ?_
 case hpre12=>(simp only[List.dropLast_cons_cons,List.dropLast_singleton];first | done | exact rfl)
 case hz112=>(simp only[List.dropLast_cons_cons,List.dropLast_singleton,List.getLast?_cons_cons,List.getLast?_singleton];first | done | exact rfl)
 case hz212=>(simp only[List.getLast?_cons_cons,List.getLast?_singleton];first | done | exact rfl)
 repeat (first
  | (refine AWq.val rfl rfl rfl rfl (fun K hK=>?_);go_big_quiet_op;refine hK _ ?_;clear hK K)
  | (refine AWq.skip rfl rfl rfl ?_;simp only[Act.put,zq6,zq7,zq8])
  | (refine AWq.callQ ((fun u W=>OwnB num w1.heap.size u W)) ((fun u _ _ he h=>h.ext he)) rfl Tryz.func90 (by kernel_rfl) (by kernel_rfl) rfl rfl rfl (fun wc hc=>?_) ?_;(· (simp only[zh,zm,↓reduceIte,Nat.reduceEqDiff,zq1,zq2,zq3,zq4,zq5];exact((HN wc).out).mono fun e w' ⟨v,e1,e2,e3⟩=>⟨v,e1,⟨e2.1,zf1 e2.2 hc.size⟩,e3⟩))))
 refine AWq.two rfl rfl rfl (fun w2 x2=>?_);simp only[zl,Act.put,zq6,zq7,zq8];intro v6 h6;have hql2:q<w2.heap.size:=(HQ1.out.ext x2).lt;have bq2:=HQ1.out.ext x2;have hw12:=x2.size;obtain⟨v3,w3,hrun,hO3,hk3,hb3⟩:=(HO1.out.ext x2).app (by have:=HW.out;have:=hs1.out;omega) (zcy Tryz.underlying48 byte_coded h6.sl (Ext.refl w2)) (by omega) (by omega);obtain⟨A3,c3,rfl,_⟩:=zr (code:=za4) hO3.sl;generalize hN3:(acc++num).length=N3 at hrun hO3 hb3;clear hN3;have bq3:Blk w3 q 48 #[.slice A acc.length c]:=bq2.keep hk3 (fun h=>HQn.out h);have hq3:(Value.slice A3 N3 c3).ownBlock≠some q:=fun h=>by
  rcases hb3 with hb3 | hb3
  ·exact HQn.out (by rw[←hb3];exact h)
  ·have:=hb3 q h
   omega
 have HEnd:Hid (Blk (w3.setCell ⟨q,0,none⟩ (.slice A3 N3 c3)) q 48 #[.slice A3 N3 c3]∧OwnB (acc++num) B (.slice A3 N3 c3) (w3.setCell ⟨q,0,none⟩ (.slice A3 N3 c3))∧(Value.slice A3 N3 c3).ownBlock≠some q∧Keep (fun g=>g=q∨(Value.slice A acc.length c).ownBlock=some g) w (w3.setCell ⟨q,0,none⟩ (.slice A3 N3 c3))):=by
  have k4:Keep (fun g=>g=q) w3 (w3.setCell ⟨q,0,none⟩ (.slice A3 N3 c3)):=Keep.setCell (S:=fun g=>g=q) (Keep.refl _ _) (p:=⟨q,0,none⟩) (.inl rfl) _;refine⟨bq3.set 0 _,⟨hO3.1,zq hO3.2 k4 fun g hg hS=>hq3 (by rw[hg,hS])⟩,hq3,?_⟩;have k1:=Keep.of_ext (S:=fun g=>g=q∨(Value.slice A acc.length c).ownBlock=some g) (X1.out.trans x2);exact(k1.trans (hk3.mono fun g hg=>.inr hg)).trans (k4.mono fun g hg=>.inl hg)
 have b0:=bq3.cell (i:=0) (v:=.slice A acc.length c) rfl;have z0:=bq3.frozen 0;have l0:=bq3.lt;clear bq2 bq3 hO3 hk3 hb3 h6 HF1 HQ1 HO1 HN q0 ql f0 f2 fl
 at_builtin
 refine zx rfl (.tmp 3) (.tmp 6) _ _ rfl rfl rfl hrun ?_;go_wp2_with fail
 go_end0
 refine⟨rfl,.slice A3 N3 c3,?_⟩;exact HEnd.out
end
section
open Go.RowKit
structure FldI where
 n:Int
 s:ByteArray
 t:Bool
def FldI.cells (f:FldI):List Value:=[.int .i64 f.n,.string f.s,.bool f.t]
theorem fld_coded:Coded FldI.cells 3:=⟨fun _=>rfl,fun a u hu=>by simp[FldI.cells] at hu;rcases hu with rfl | rfl | rfl <;> rfl⟩
def FldI.enc (f:FldI):List UInt8:=if f.t=true then lebL f.s.size++f.s.data.toList else lebL f.n.toNat
def FldI.ok (f:FldI):Prop:=f.s.size≤65536∧(f.t=false→0≤f.n)∧f.n≤9223372036854775807
def encL (l:List FldI):List UInt8:=(l.map FldI.enc).flatten
theorem zgq {l:List FldI} {k:Nat} (h:k<l.length):encL (l.take (k+1))=encL (l.take k)++l[k].enc:=by
 unfold encL;rw[List.take_succ_eq_append_getElem h,List.map_append,List.flatten_append];simp
theorem encL_le {l:List FldI} (k:Nat):(encL (l.take k)).length≤(encL l).length:=by
 have e:encL l=encL (l.take k)++encL (l.drop k):=by
  unfold encL;rw[←List.flatten_append,←List.map_append,List.take_append_drop]
 rw[e,List.length_append];omega
theorem zh2 {l:List FldI} (h:0<l.length):0<(encL l).length:=by
 cases l with
 | nil=>simp at h
 | cons f l=>
  unfold encL;rw[List.map_cons,List.flatten_cons,List.length_append];have:0<f.enc.length:=by
   unfold FldI.enc;by_cases ht:f.t=true
   ·rw[if_pos ht,List.length_append]
    have:=zcg f.s.size;omega
   ·rw[if_neg ht];exact zcg _
  omega
def PutTo (w:World) (q B:Nat) (v:Value) (acc:List UInt8) (en:Ending) (w':World):Prop:=
 en=.returned (.tuple #[]) ∧ ∃ v',Blk w' q 48 #[v']∧OwnB acc B v' w'∧v'.ownBlock≠some q∧Keep (fun g=>g=q∨v.ownBlock=some g) w w'
theorem put_c (w:World) (q B:Nat) (f:FldI) (acc:List UInt8) (v:Value) (hf:f.ok) (hq:Blk w q 48 #[v]) (hO:OwnB acc B v w) (hB:B≤w.heap.size) (hqn:v.ownBlock≠some q) (hl:acc.length≤65536):Calls Tryz.prog 89 #[.agg #[.int .i64 f.n,.string f.s,.bool f.t],.pointer (some ⟨q,0,none⟩)] w (PutTo w q B v (acc++f.enc)):=by
 obtain⟨A,c,rfl,_⟩:=zr (code:=za4) hO.sl;obtain⟨n,s,t⟩:=f;obtain⟨h1,h2,h3⟩:=hf;dsimp only at h1 h2 h3⊢;cases t with
 | true=>exact putT_c w q B n s acc A c hq hO hB hqn hl h1
 | false=>
  obtain⟨k,rfl⟩:∃ k:Nat,n=(k:Int):=⟨n.toNat,by have:=h2 rfl;omega⟩
  exact putN_c w q B k s acc A c (by omega) hq hO hB hqn hl
theorem zl2 (w:World) (v:Value) (l:List FldI) (h:Sl w 3 v (l.map FldI.cells)) (hok:∀ f∈l,f.ok) (hpos:0<l.length) (htot:(encL l).length≤65536):Calls Tryz.prog 51 #[v] w (Ret (.tuple #[.string ⟨(encL l).toArray⟩,.int .i64 0]) w):=by
 obtain⟨A,c,rfl,h1,h2,h3⟩:=zr h;unfold maxLen at h2;obtain⟨b,o,rfl,lb,hcell⟩:=h3 hpos;have HQ0:=hid (Blk.new w 48 #[.slice none 0 0]);have HE0:=hid (Ext.alloc w (.cells #[.slice none 0 0] 48));have HOk:=hid (fun k (hk:k<l.length)=>hok _ (List.getElem_mem hk));have HC:=hid hcell;have hql:=Nat.le_refl w.heap.size;clear h h3 hcell hok;go_enter Tryz.func51,Tryz.ntmps51;go_wp2_with fail
 generalize w.alloc (.cells #[.slice none 0 0] 48)=w0 at HQ0 HE0⊢;generalize hq:w.heap.size=q at HQ0⊢;have hq':w.heap.size≤q:=by omega
 clear hq hql;go_loopw [13] (fun i wr=>∃ k:Nat,k≤l.length∧i=.int .i64 k∧Hid (Ext w0 wr)) (fun i _=>l.length-(intOf i).toNat)
 case atStart=>exact⟨0,by omega,rfl,Ext.refl _⟩
 case round=>
  obtain⟨k,hk,rfl,HE⟩:=hrel;by_cases hlt:k<l.length
  ·have hf:=HOk.out k hlt
   have c0:=(HE0.out.trans HE.out).cell (HC.out k hlt 0 _ rfl);have c1:=(HE0.out.trans HE.out).cell (HC.out k hlt 1 _ rfl);have c2:=(HE0.out.trans HE.out).cell (HC.out k hlt 2 _ rfl);rw[Nat.add_zero] at c0;have lbr:=Nat.lt_of_lt_of_le lb (HE0.out.trans HE.out).size;obtain⟨f1,f2,f3⟩:=hf;generalize l[k]=f at c0 c1 c2 f1 f2 f3;obtain⟨n,s,t⟩:=f;dsimp only at c0 c1 c2 f1 f2 f3;cases t with
   | true=>
    clear f1 f2 f3;go_wp2_with fail
    go_roundw
    case rel=>exact⟨k+1,by omega,by go_num,HE.out.trans (Ext.alloc _ _)⟩
    case measure=>simp[intOf];omega
   | false=>
    have dn:decide (n<0)=false:=decide_eq_false (by have:=f2 rfl;omega);clear f1 f2 f3;go_wp2_with fail
    go_roundw
    case rel=>exact⟨k+1,by omega,by go_num,HE.out.trans (Ext.alloc _ _)⟩
    case measure=>simp[intOf];omega
  ·obtain rfl:k=l.length:=by omega
   have HQ1:=hid (HQ0.out.ext HE.out);have HE1:=hid (HE0.out.trans HE.out);clear HQ0 HE0 HE;go_wp2_with fail
   go_loopw [28] (fun i W=>∃ (k:Nat) (bv:Value),k≤l.length∧i=.int .i64 k∧Hid (Ext w W)∧Hid (Blk W q 48 #[bv])∧Hid (OwnB (encL (l.take k)) w.heap.size bv W)∧Hid (bv.ownBlock≠some q)) (fun i _=>l.length-(intOf i).toNat)
   case atStart=>exact⟨0,_,by omega,rfl,HE1.out,HQ1.out,by rw[List.take_zero];exact OwnB.nil _ _,by unfold Hid;simp[Value.ownBlock]⟩
   case round=>
    obtain⟨k,bv,hk2,rfl,HE2,HQ2,HO2,HN2⟩:=hrel;by_cases hlt2:k<l.length
    ·have hf:=HOk.out k hlt2
     have c0:=HE2.out.cell (HC.out k hlt2 0 _ rfl);have c1:=HE2.out.cell (HC.out k hlt2 1 _ rfl);have c2:=HE2.out.cell (HC.out k hlt2 2 _ rfl);rw[Nat.add_zero] at c0;have lbr:=Nat.lt_of_lt_of_le lb HE2.out.size;have HT:=hid (zgq hlt2);have hle:=Nat.le_trans (encL_le (l:=l) k) htot;have HF:=hid hf;have HP:=fun W (hW:Ext wr W)=>hid (put_c W q w.heap.size l[k] (encL (l.take k)) bv hf (HQ2.out.ext hW) (HO2.out.ext hW) (Nat.le_trans HE2.out.size hW.size) HN2.out hle);clear hf;generalize l[k]=f at c0 c1 c2 HP HT HF;obtain⟨n,s,t⟩:=f;dsimp only at c0 c1 c2 HP;go_wp2_with fail
     refine((HP _ (Ext.alloc _ _)).out).mono ?_;rintro en w3 ⟨rfl,v',g1,g2,g3,g4⟩;have HQ3:=hid g1;have HO3:=hid g2;have HN3:=hid g3;have HE3:Hid (Ext w w3):=g4.toExt (HE2.out.trans (Ext.alloc _ _)) fun g hg=>by
      rcases hg with rfl | hg
      ·exact hq'
      ·exact(zt HO2.out.2 g hg).1
     clear g1 g2 g3 g4 HP;go_wp2_with fail
     go_roundw
     case rel=>exact⟨k+1,v',by omega,by go_num,HE3.out,HQ3.out,by rw[HT.out];exact HO3.out,HN3.out⟩
     case measure=>simp[intOf];omega
    ·obtain rfl:k=l.length:=by omega
     rw[List.take_length] at HO2;have hcv:=zia HO2.out (zh2 hpos);obtain⟨A3,c3,rfl,_⟩:=zr (code:=za4) HO2.out.sl;have b0:=HQ2.out.cell (i:=0) (v:=.slice A3 (encL l).length c3) rfl;have bl:=HQ2.out.lt;have dl:decide ((65536:Int)<(encL l).length)=false:=decide_eq_false (by omega);have dl':decide (65536<(encL l).length)=false:=decide_eq_false (by omega);clear HOk HC;go_wp2_with fail
     go_ret2;exact⟨rfl,HE2.out⟩
end
section
open Go.RowKit
theorem fN_c (w:World) (n:Int):Calls Tryz.prog 95 #[.int .i64 n] w (Ret (.agg #[.int .i64 n,.string ⟨#[]⟩,.bool false]) w):=by
 have HB:=hid (Blk.new w 140 #[.int .i64 n,.string ⟨#[]⟩,.bool false]);have HE:=hid (Ext.alloc w (.cells #[.int .i64 n,.string ⟨#[]⟩,.bool false] 140));go_enter Tryz.func95,Tryz.ntmps95;go_wp2_with fail
 exact bodyPost_ret (results_cell_row rfl _ _ w.heap.size 140 _ (0,0) _ rfl HB.out Tryz.underlying140 rfl (show(Tryz.prog.info? 140).map (·.size)=some 3 by kernel_rfl)) rfl ⟨rfl,HE.out⟩
theorem fT_c (w:World) (s:ByteArray):Calls Tryz.prog 97 #[.string s] w (Ret (.agg #[.int .i64 0,.string s,.bool true]) w):=by
 have HB:=hid (Blk.new w 140 #[.int .i64 0,.string s,.bool true]);have HE:=hid (Ext.alloc w (.cells #[.int .i64 0,.string s,.bool true] 140));go_enter Tryz.func97,Tryz.ntmps97;go_wp2_with fail
 exact bodyPost_ret (results_cell_row rfl _ _ w.heap.size 140 _ (0,0) _ rfl HB.out Tryz.underlying140 rfl (show(Tryz.prog.info? 140).map (·.size)=some 3 by kernel_rfl)) rfl ⟨rfl,HE.out⟩
theorem zdt (w:World) (v:Value) (l:List FldI) (h:Sl w 3 v (l.map FldI.cells)) (hok:∀ f∈l,f.ok) (hpos:0<l.length) (htot:(encL l).length≤65536):Calls Tryz.prog 138 #[v] w (Ret (.string ⟨(encL l).toArray⟩) w):=by
 have HL:=hid (zl2 w v l h hok hpos htot);obtain⟨A,c,rfl,_⟩:=zr h;clear h hok;go_enter Tryz.func138,Tryz.ntmps138;go_wp2_with fail
 refine(HL.out).mono ?_;rintro e w1 ⟨rfl,x1⟩;go_wp2_with fail
 go_ret;exact⟨rfl,x1⟩
theorem zmd (w:World) (b:Bool):Calls Tryz.prog 140 #[.bool b] w (Ret (.int .i64 (if b then 1 else 0)) w):=by
 cases b
 all_goals
  go_enter Tryz.func140,Tryz.ntmps140;go_wp2_with fail
  go_ret;exact⟨rfl,Ext.refl _⟩
def fN (n:Int):FldI:=⟨n,⟨#[]⟩,false⟩
def fT (s:ByteArray):FldI:=⟨0,s,true⟩
def OwnF (l:List FldI) (B:Nat) (v:Value) (w:World):Prop:=w.ownsRow B 140 3 v l.length (l.map FldI.cells).flatten
theorem OwnF.sl {l:List FldI} {B:Nat} {v:Value} {w:World} (h:OwnF l B v w):Sl w 3 v (l.map FldI.cells):=
 zam (xs:=l.map FldI.cells) (fld_coded.sizes _) (by rw[List.length_map];exact h)
theorem OwnF.ext {l:List FldI} {B:Nat} {v:Value} {w w':World} (h:OwnF l B v w) (he:Ext w w'):OwnF l B v w':=zw h he
theorem OwnF.weak {l:List FldI} {B B':Nat} {v:Value} {w:World} (h:OwnF l B v w) (hB:B'≤B):OwnF l B' v w:=zY h hB
theorem zcm (w:World) {B:Nat} (hB:B≤w.heap.size) (a b:FldI):OwnF [a,b] B (.slice (some ⟨w.heap.size,0,none⟩) 2 2) (w.alloc (.cells #[.int .i64 a.n,.string a.s,.bool a.t,.int .i64 b.n,.string b.s,.bool b.t] 140)):=
 zaH hB 140 3 2 #[.int .i64 a.n,.string a.s,.bool a.t,.int .i64 b.n,.string b.s,.bool b.t] (by unfold maxLen;omega) rfl
theorem zma:(Tryz.prog.info? 140).map (fun i=>(i.zero,i.size,i.bytes))=some (some (.agg #[.int .i64 0,.string ⟨#[]⟩,.bool false]),3,32):=by kernel_rfl
theorem zbF:Elem Tryz.prog 94 140 3 32:=by
 obtain⟨i0,h0,h1,h2,h3⟩:=info_parts zma;exact⟨Tryz.underlying94,i0,_,h0,h1,h2,h3,rfl⟩
theorem OwnF.app {l m:List FldI} {B:Nat} {v u:Value} {w:World} (h:OwnF l B v w) (hB:B≤w.heap.size) (hm:Sl w 3 u (m.map FldI.cells)) (hl:l.length≤100000) (hml:m.length≤100000):∃ v' w',(Builtin.append_ #[94,94] 94 #[v,u]).run Tryz.prog w=.ok v' w'∧OwnF (l++m) B v' w'∧Keep (fun q=>v.ownBlock=some q) w w':=by
 obtain⟨v',w',hr,ho,hk,_,_⟩:=zeO (ty:=94) zbF h hB (zcy Tryz.underlying94 fld_coded hm (Ext.refl w)) (by unfold maxLen;omega) (by omega);refine⟨v',w',hr,?_,hk⟩;unfold OwnF;rw[List.length_append,List.map_append,List.flatten_append];exact ho
theorem zgO (w:World) (v:Ver):Calls Tryz.prog 168 #[v.val] w (RetQ (fun u W=>OwnF [fN v.by_,fN v.n] w.heap.size u W ∧ ∃ q,u=.slice (some ⟨q,0,none⟩) 2 2) w):=by
 have HN:=fun W n=>hid (fN_c W n);have HB:=hid (Blk.new w 51 #[.int .i64 v.by_,.int .i64 v.n]);have HE:=hid (Ext.alloc w (.cells #[.int .i64 v.by_,.int .i64 v.n] 51));unfold Ver.val;go_enter Tryz.func168,Tryz.ntmps168;go_wp2_with fail
 have hw:=HE.out.size;generalize w.alloc (.cells #[.int .i64 v.by_,.int .i64 v.n] 51)=w0 at HB HE hw⊢;have HWs:=hid hw;have b0:=HB.out.cell (i:=0) (v:=.int .i64 v.by_) rfl;have b1:=HB.out.cell (i:=1) (v:=.int .i64 v.n) rfl;have bl:=HB.out.lt;clear hw;refine zc (by kernel_rfl) (by kernel_rfl) (by kernel_rfl) ?_
 repeat (first
  | (refine AWq.val rfl rfl rfl rfl (fun K hK=>?_);go_big_quiet_op;refine hK _ ?_;clear hK K)
  | (refine AWq.skip rfl rfl rfl ?_;simp only[Act.put,zq6,zq7,zq8])
  | (refine AWq.call rfl Tryz.func95 (by kernel_rfl) (by kernel_rfl) rfl rfl rfl ?_;apply Exists.intro;refine And.intro (fun wc hc=>?_) ?_;(· (simp only[zh,zm,↓reduceIte,Nat.reduceEqDiff,zq1,zq2,zq3,zq4,zq5];with_reducible exact(HN _ _).out));simp only[Act.put,zq6,zq7,zq8])
  | (refine AWq.opV (fun u W=>OwnF [fN v.by_,fN v.n] w.heap.size u W ∧ ∃ q,u=.slice (some ⟨q,0,none⟩) 2 2) (fun u _ _ he h=>⟨OwnF.ext h.1 he,h.2⟩) rfl rfl rfl rfl (fun wc hc=>?_) ?_;(· (have hc2:=Nat.le_trans HWs.out hc.size;have hc':=hc.rule;clear hc;go_simp;dsimp only[Gives];exact⟨⟨zcm wc hc2 (fN v.by_) (fN v.n),_,rfl⟩,Ext.alloc _ _⟩)))
  | (refine AWq.opQ ((fun u W=>OwnF [fN v.by_,fN v.n] w.heap.size u W ∧ ∃ q,u=.slice (some ⟨q,0,none⟩) 2 2)) ((fun u _ _ he h=>⟨OwnF.ext h.1 he,h.2⟩)) rfl (fun a wc hc hl'=>⟨rfl,?_⟩) ?_;(· (have e:=hl' 9 (of_decide_eq_true (by kernel_rfl));exact⟨e,Ext.refl _⟩))))
 refine AWq.done rfl rfl rfl (fun w2 x2=>?_);simp only[zl,Act.put,zq6,zq7,zq8];intro u2 h2 _ _;go_wp2_with fail
 go_ret;exact⟨_,rfl,h2,HE.out.trans x2⟩
end
section
open Go.RowKit
theorem OwnF.app_full {l m:List FldI} {B:Nat} {A:Option Addr} {u:Value} {w:World} (h:OwnF l B (.slice A l.length l.length) w) (hB:B≤w.heap.size) (hm:Sl w 3 u (m.map FldI.cells)) (hl:l.length≤100000) (hml:m.length≤100000):∃ v' w',(Builtin.append_ #[94,94] 94 #[.slice A l.length l.length,u]).run Tryz.prog w=.ok v' w'∧OwnF (l++m) B v' w'∧Ext w w':=by
 obtain⟨v',w',hr,ho,_⟩:=h.app hB hm hl hml;obtain⟨v2,w2,hr2,_,he⟩:=Go.Proofs.YtofjpdgojoppbaaGreatDoor.app_full (P:=Tryz.prog) (tx:=94) (ty:=94) (m:=m) zbF fld_coded h.sl (zcy Tryz.underlying94 fld_coded hm (Ext.refl w)) (by omega) (by omega) (by omega);rw[hr] at hr2;injection hr2 with e1 e2
 subst e1 e2;exact⟨v',w',hr,ho,he⟩
theorem zhv (w:World) (i:Ver) (sb sn tm:Int) (p:ByteArray):Calls Tryz.prog 139 #[.agg #[.int .i64 i.by_,.int .i64 i.n],.agg #[.int .i64 sb,.int .i64 sn,.int .i64 tm],.string p] w (RetQ (OwnF [fN i.by_,fN i.n,fN sb,fN sn,fN tm,fT p] w.heap.size) w):=by
 have HN:=fun W n=>hid (fN_c W n);have HT:=fun W=>hid (fT_c W p);have HV1:∀ W:World,w.heap.size≤W.heap.size→Hid (Calls Tryz.prog 168 #[.agg #[.int .i64 i.by_,.int .i64 i.n]] W (RetQ (fun u W=>OwnF [fN i.by_,fN i.n] w.heap.size u W ∧ ∃ q,u=.slice (some ⟨q,0,none⟩) 2 2) W)):=fun W hW=>
  (zgO W i).mono fun e w' ⟨v,e1,e2,e3⟩=>⟨v,e1,⟨e2.1.weak hW,e2.2⟩,e3⟩
 have HV2:∀ W:World,w.heap.size≤W.heap.size→Hid (Calls Tryz.prog 168 #[.agg #[.int .i64 sb,.int .i64 sn]] W (RetQ (fun u W=>OwnF [fN sb,fN sn] w.heap.size u W ∧ ∃ q,u=.slice (some ⟨q,0,none⟩) 2 2) W)):=fun W hW=>
  (zgO W ⟨sb,sn⟩).mono fun e w' ⟨v,e1,e2,e3⟩=>⟨v,e1,⟨e2.1.weak hW,e2.2⟩,e3⟩
 have HB1:=hid ((Blk.new w 51 #[.int .i64 i.by_,.int .i64 i.n]).alloc (.cells #[.int .i64 sb,.int .i64 sn,.int .i64 tm] 53));have HB2:=hid (Blk.new (w.alloc (.cells #[.int .i64 i.by_,.int .i64 i.n] 51)) 53 #[.int .i64 sb,.int .i64 sn,.int .i64 tm]);rw[World.size_alloc] at HB2;have HE:=hid ((Ext.alloc w (.cells #[.int .i64 i.by_,.int .i64 i.n] 51)).alloc' (.cells #[.int .i64 sb,.int .i64 sn,.int .i64 tm] 53));go_enter Tryz.func139,Tryz.ntmps139;go_wp2_with fail
 have hw:=HE.out.size;generalize (w.alloc (.cells #[.int .i64 i.by_,.int .i64 i.n] 51)).alloc (.cells #[.int .i64 sb,.int .i64 sn,.int .i64 tm] 53)=w0 at HB1 HB2 HE hw⊢;have HWs:=hid hw;clear hw;have b0:=HB1.out.cell (i:=0) (v:=.int .i64 i.by_) rfl;have b1:=HB1.out.cell (i:=1) (v:=.int .i64 i.n) rfl;have bl:=HB1.out.lt;have c0:=HB2.out.cell (i:=0) (v:=.int .i64 sb) rfl;have c1:=HB2.out.cell (i:=1) (v:=.int .i64 sn) rfl;have c2:=HB2.out.cell (i:=2) (v:=.int .i64 tm) rfl;have cl:=HB2.out.lt
 refine zbj (pre:=?pre10) (z1:=?z110) (z2:=?z210) ?hpre10 ?hz110 ?hz210 (by kernel_rfl) (by kernel_rfl) (by kernel_rfl) (by kernel_rfl) (by kernel_rfl) ?_
 case hpre10=>(simp only[List.dropLast_cons_cons,List.dropLast_singleton];first | done | exact rfl)
 case hz110=>(simp only[List.dropLast_cons_cons,List.dropLast_singleton,List.getLast?_cons_cons,List.getLast?_singleton];first | done | exact rfl)
 case hz210=>(simp only[List.getLast?_cons_cons,List.getLast?_singleton];first | done | exact rfl)
 repeat (first
  | (refine AWq.val rfl rfl rfl rfl (fun K hK=>?_);go_big_quiet_op;refine hK _ ?_;clear hK K)
  | (refine AWq.skip rfl rfl rfl ?_;simp only[Act.put,zq6,zq7,zq8])
  | (refine AWq.call rfl Tryz.func95 (by kernel_rfl) (by kernel_rfl) rfl rfl rfl ?_;apply Exists.intro;refine And.intro (fun wc hc=>?_) ?_;(· (simp only[zh,zm,↓reduceIte,Nat.reduceEqDiff,zq1,zq2,zq3,zq4,zq5];with_reducible exact(HN _ _).out));simp only[Act.put,zq6,zq7,zq8])
  | (refine AWq.call rfl Tryz.func97 (by kernel_rfl) (by kernel_rfl) rfl rfl rfl ?_;apply Exists.intro;refine And.intro (fun wc hc=>?_) ?_;(· (simp only[zh,zm,↓reduceIte,Nat.reduceEqDiff,zq1,zq2,zq3,zq4,zq5];with_reducible exact(HT _).out));simp only[Act.put,zq6,zq7,zq8])
  | (refine AWq.callQ ((fun u W=>OwnF [fN i.by_,fN i.n] w.heap.size u W ∧ ∃ q,u=.slice (some ⟨q,0,none⟩) 2 2)) ((fun u _ _ he h=>⟨OwnF.ext h.1 he,h.2⟩)) rfl Tryz.func168 (by kernel_rfl) (by kernel_rfl) rfl rfl rfl (fun wc hc=>?_) ?_;(· (simp only[zh,zm,↓reduceIte,Nat.reduceEqDiff,zq1,zq2,zq3,zq4,zq5];with_reducible exact(HV1 wc (Nat.le_trans HWs.out hc.size)).out)))
  | (refine AWq.callQ ((fun u W=>OwnF [fN sb,fN sn] w.heap.size u W ∧ ∃ q,u=.slice (some ⟨q,0,none⟩) 2 2)) ((fun u _ _ he h=>⟨OwnF.ext h.1 he,h.2⟩)) rfl Tryz.func168 (by kernel_rfl) (by kernel_rfl) rfl rfl rfl (fun wc hc=>?_) ?_;(· (simp only[zh,zm,↓reduceIte,Nat.reduceEqDiff,zq1,zq2,zq3,zq4,zq5];with_reducible exact(HV2 wc (Nat.le_trans HWs.out hc.size)).out)))
  | (refine AWq.opQ (fun u W=>OwnF [fN i.by_,fN i.n,fN sb,fN sn] w.heap.size u W) (fun u _ _ he h=>OwnF.ext h he) rfl (fun a wc hc hl'=>⟨rfl,?_⟩) ?_;(· (have e8:OwnF [fN i.by_,fN i.n] w.heap.size (a.tmps.getD 8 undef) wc ∧ ∃ q,a.tmps.getD 8 undef=.slice (some ⟨q,0,none⟩) 2 2:=hl' 8 (of_decide_eq_true (by kernel_rfl));have e11:OwnF [fN sb,fN sn] w.heap.size (a.tmps.getD 11 undef) wc ∧ ∃ q,a.tmps.getD 11 undef=.slice (some ⟨q,0,none⟩) 2 2:=hl' 11 (of_decide_eq_true (by kernel_rfl));obtain⟨o8,q8,e8⟩:=e8;rw[e8] at o8;obtain⟨v',w',hr',hO,hX⟩:=OwnF.app_full (l:=[fN i.by_,fN i.n]) o8 (Nat.le_trans HWs.out hc.size) e11.1.sl (by simp) (by simp);exact zeg (a:=a) (s:=.tmp 8) (x:=.tmp 11) rfl e8 rfl hr' ⟨hO,hX⟩)))
  | (refine AWq.opV (fun u W=>OwnF [fN tm,fT p] w.heap.size u W) (fun u _ _ he h=>OwnF.ext h he) rfl rfl rfl rfl (fun wc hc=>?_) ?_;(· (have hc2:=Nat.le_trans HWs.out hc.size;have hc':=hc.rule;clear hc;go_simp;dsimp only[Gives];exact⟨zcm wc hc2 (fN tm) (fT p),Ext.alloc _ _⟩))))
 refine AWq.two rfl rfl rfl (fun w2 x2=>?_);simp only[zl,Act.put,zq6,zq7,zq8];intro v18 h18 v12 h12 v11 _ v8 _;obtain⟨v3,w3,hrun,hO3,hk3⟩:=h12.app (Nat.le_trans HWs.out x2.size) h18.sl (by simp) (by simp);have HEnd:Hid (Ext w w3):=hk3.toExt (HE.out.trans x2) fun q hq=>(zt h12 q hq).1;have HO:=hid hO3;clear hO3 hk3 h12 h18 b0 b1 bl c0 c1 c2 cl
 at_builtin
 refine zx rfl (.tmp 12) (.tmp 18) _ _ rfl rfl rfl hrun ?_;go_wp2_with fail
 go_ret;exact⟨_,rfl,HO.out,HEnd.out⟩
end
section
open Go.RowKit
theorem za7 (w:World) (z:Int) (h1:-9223372036854775808≤z) (h2:z≤9223372036854775807):Calls Tryz.prog 46 #[.int .i64 z] w (Ret (.string (numB z)) w):=by
 by_cases h0:0≤z
 ·obtain⟨n,rfl⟩:∃ n:Nat,z=(n:Int):=⟨z.toNat,by omega⟩
  rw[zlL];exact zf2 w n (by omega)
 ·have d0:decide ((127:Int)<z)=false:=decide_eq_false (by omega)
  have hc:=fun W=>zen W (z%256);have HR:Hid (numB z=⟨#[UInt8.ofNat (z%256).toNat]⟩):=by unfold Hid numB;rw[if_pos (by omega)]
  generalize UInt8.ofNat (z%256).toNat=c at hc HR;go_enter Tryz.func46,Tryz.ntmps46;go_wp2_with fail
  go_loopw [0,3] (fun s0 s3 wr=>s0=.int .i64 z∧s3=.string ⟨#[]⟩∧wr=w) (fun _ _ _=>0)
  case atStart=>exact⟨rfl,rfl,rfl⟩
  case round=>
   obtain⟨rfl,rfl,rfl⟩:=hrel;go_wp2_with fail
   go_ret;exact⟨by rw[HR.out];rfl,Ext.alloc _ _⟩
def verB (v:Ver):ByteArray:=numB v.by_++numB v.n
theorem zd7 (w:World) (v:Ver) (h1:-9223372036854775808≤v.by_∧v.by_≤9223372036854775807) (h2:-9223372036854775808≤v.n∧v.n≤9223372036854775807):Calls Tryz.prog 87 #[v.val] w (Ret (.string (verB v)) w):=by
 have H1:=fun W=>hid (za7 W v.by_ h1.1 h1.2);have H2:=fun W=>hid (za7 W v.n h2.1 h2.2);have s1:=zbp h1.2;have s2:=zbp h2.2;have HE:=hid (Ext.alloc w (.cells #[.int .i64 v.by_,.int .i64 v.n] 51));have HB:=hid (Blk.new w 51 #[.int .i64 v.by_,.int .i64 v.n]);unfold Ver.val verB;generalize numB v.by_=a at H1 s1⊢;generalize numB v.n=b at H2 s2⊢;clear h1 h2;go_enter Tryz.func87,Tryz.ntmps87;go_wp2_with fail
 generalize w.alloc (.cells #[.int .i64 v.by_,.int .i64 v.n] 51)=w0 at HB HE⊢;have b0:=HB.out.cell (i:=0) (v:=.int .i64 v.by_) rfl;have b1:=HB.out.cell (i:=1) (v:=.int .i64 v.n) rfl;have bl:=HB.out.lt;refine zc (by kernel_rfl) (by kernel_rfl) (by kernel_rfl) ?_
 repeat (first
  | (refine AWq.val rfl rfl rfl rfl (fun K hK=>?_);go_big_quiet_op;refine hK _ ?_;clear hK K)
  | (refine AWq.skip rfl rfl rfl ?_;simp only[Act.put,zq6,zq7,zq8])
  | (refine AWq.call rfl Tryz.func46 (by kernel_rfl) (by kernel_rfl) rfl rfl rfl ?_;apply Exists.intro;refine And.intro (fun wc hc=>?_) ?_;(· (simp only[zh,zm,↓reduceIte,Nat.reduceEqDiff,zq1,zq2,zq3,zq4,zq5];with_reducible exact(H1 _).out));simp only[Act.put,zq6,zq7,zq8])
  | (refine AWq.call rfl Tryz.func46 (by kernel_rfl) (by kernel_rfl) rfl rfl rfl ?_;apply Exists.intro;refine And.intro (fun wc hc=>?_) ?_;(· (simp only[zh,zm,↓reduceIte,Nat.reduceEqDiff,zq1,zq2,zq3,zq4,zq5];with_reducible exact(H2 _).out));simp only[Act.put,zq6,zq7,zq8]))
 refine AWq.done rfl rfl rfl (fun w2 x2=>?_);simp only[zl,Act.put,zq6,zq7,zq8];go_wp2_with fail
 go_ret;exact⟨rfl,HE.out.trans x2⟩
theorem zlv (w:World) (b:Bool):Calls Tryz.prog 88 #[.bool b] w (Ret (.string (if b then⟨#[1]⟩ else⟨#[0]⟩)) w):=by
 cases b
 all_goals
  go_enter Tryz.func88,Tryz.ntmps88;go_wp2_with fail
  go_ret;exact⟨rfl,Ext.refl _⟩
end
section
open Go.RowKit
def in64 (z:Int):Prop:=-9223372036854775808≤z∧z≤9223372036854775807
theorem zbe {v:Ver} (h1:in64 v.by_) (h2:in64 v.n):(verB v).size≤18:=by
 unfold verB;rw[ByteArray.size_append];have:=zbp h1.2;have:=zbp h2.2;omega
theorem zbm (s:ByteArray) (h:s.size≤100000):(zO s).size≤s.size+9:=by
 unfold zO;rw[ByteArray.size_append];have:=zft (n:=s.size) (by omega);omega
theorem zu {z:Int} (h:0≤z):(numB z).data.toList=lebL z.toNat:=by
 unfold numB lebB;rw[if_neg (by omega)]
theorem zV (s:ByteArray):(zO s).data.toList=lebL s.size++s.data.toList:=by
 unfold zO lebB;rw[ByteArray.data_append,Array.toList_append]
def okZ (b:Bool):Int:=if b then 0 else 2
def putB (b:Bool) (s:ByteArray):ByteArray:=if b then s else⟨#[]⟩
theorem zcc (t:ByteArray):t.toList.length=t.size:=by
 rw[Lib.toList_data,Array.length_toList];rfl
end
section
open Go.RowKit
def endK (s:ByteArray) (e:Int):Int:=if e=0 then(if s.size=0 then 0 else 6) else e
theorem zeE (w:World) (q:Nat) (s:ByteArray) (e:Int) (h:InAt w q s e):Calls Tryz.prog 113 #[.pointer (some ⟨q,0,none⟩)] w (Ret (.int .i64 (endK s e)) w):=by
 have HE:=fun W (hW:Ext w W)=>hid (zgo W q s e (h.ext hW));have HL:=fun W (hW:Ext w W)=>hid (zfs W q s e (h.ext hW));clear h;unfold endK;by_cases h0:e=0
 ·subst h0
  rw[if_pos rfl];have hl:zdn s 0=(s.size:Int):=if_pos rfl;rw[hl] at HL;clear hl;by_cases hz:s.size=0
  ·rw[if_pos hz]
   rw[hz] at HL;clear hz;go_enter Tryz.func113,Tryz.ntmps113;go_wp2_with fail
   refine((HE _ (Ext.refl _)).out).mono ?_;rintro e w1 ⟨rfl,x1⟩;have X1:=hid x1;clear x1 HE;go_wp2_with fail
   refine((HL _ X1.out).out).mono ?_;rintro e w2 ⟨rfl,x2⟩;have X2:=hid (X1.out.trans x2);clear x2 HL;go_wp2_with fail
   go_ret;exact⟨rfl,X2.out⟩
  ·rw[if_neg hz]
   have dz:decide ((0:Int)<s.size)=true:=decide_eq_true (by omega);have dz':decide (0<s.size)=true:=decide_eq_true (by omega);clear hz;go_enter Tryz.func113,Tryz.ntmps113;go_wp2_with fail
   refine((HE _ (Ext.refl _)).out).mono ?_;rintro e w1 ⟨rfl,x1⟩;have X1:=hid x1;clear x1 HE;go_wp2_with fail
   refine((HL _ X1.out).out).mono ?_;rintro e w2 ⟨rfl,x2⟩;have X2:=hid (X1.out.trans x2);clear x2 HL;go_wp2_with fail
   go_ret;exact⟨rfl,X2.out⟩
 ·rw[if_neg h0]
  have d0:(e != 0)=true:=by simp[h0]
  clear h0 HL;go_enter Tryz.func113,Tryz.ntmps113;go_wp2_with fail
  refine((HE _ (Ext.refl _)).out).mono ?_;rintro e w1 ⟨rfl,x1⟩;have X1:=hid x1;clear x1 HE;go_wp2_with fail
  go_ret;exact⟨rfl,X1.out⟩
def zeG (s:ByteArray) (e:Int) (z1 z2:Nat) (s':ByteArray) (e':Int):Prop:=
 ∀ n1 n2 rest,e=0→n1<9223372036854775808→n2<9223372036854775808→s.data.toList=lebL n1++(lebL n2++rest)→z1=n1∧z2=n2∧s'.data.toList=rest∧e'=0
theorem zdQ (w:World) (q:Nat) (s:ByteArray) (e:Int) (h:InAt w q s e) (hs:s.size≤1000000):Calls Tryz.prog 151 #[.pointer (some ⟨q,0,none⟩)] w (fun en w'=>∃ (z1 z2:Nat) (s':ByteArray) (e':Int),en=.returned (.agg #[.int .i64 z1,.int .i64 z2])∧z1<9223372036854775808∧z2<9223372036854775808∧Keep (fun g=>g=q) w w'∧InAt w' q s' e'∧s'.size≤s.size∧zeG s e z1 z2 s' e'):=by
 have HN:=fun W (s':ByteArray) (e':Int) (h':InAt W q s' e') (hs':s'.size≤1000000)=>hid (n_c W q s' e' h' hs');have HB:=hid (Blk.new w 51 #[.int .i64 0,.int .i64 0]);have HK:=hid (Keep.of_ext (S:=fun g=>g=q) (Ext.alloc w (.cells #[.int .i64 0,.int .i64 0] 51)));have H:=hid (h.ext (Ext.alloc w (.cells #[.int .i64 0,.int .i64 0] 51)));have hq:¬ w.heap.size=q:=by have:=h.lt;omega
 have HQ:=hid hq;clear h hq;go_enter Tryz.func151,Tryz.ntmps151;go_wp2_with fail
 generalize w.alloc (.cells #[.int .i64 0,.int .i64 0] 51)=w0 at H HB HK⊢;have HG:Hid (∃ g,g=w.heap.size∧w.heap.size≤g):=⟨_,rfl,Nat.le_refl _⟩
 obtain⟨g,hg,hG⟩:=HG.out;have HG:=hid hG;clear hG;rw[←hg] at HB HQ⊢;clear hg;refine((HN _ _ _ H.out hs).out).mono ?_;rintro en w1 ⟨z1,s1,e1,rfl,hz1,k1,h1,hs1,r1⟩;have HK1:=hid (HK.out.trans k1);have HI1:=hid h1;have HB1:=hid (HB.out.keep k1 HQ.out);have R1:=hid r1;have Z1:=hid hz1;clear k1 h1 r1 HB H HK hz1;go_wp2_with fail
 refine((HN _ _ _ HI1.out (by omega)).out).mono ?_;rintro en w2 ⟨z2,s2,e2,rfl,hz2,k2,h2,hs2,r2⟩;have HK2:=hid (HK1.out.trans k2);have HI2:=hid h2;have HB2:=hid (HB1.out.keep k2 HQ.out);have RV:Hid (zeG s e z1 z2 s2 e2):=fun n1 n2 rest a0 a1 a2 a3=>by
  obtain⟨b1,b2,b3⟩:=R1.out n1 _ a0 a1 a3;obtain⟨c1,c2,c3⟩:=r2 n2 _ b3 a2 b2;exact⟨b1,c1,c2,c3⟩
 have b0:=HB2.out.lt;have a0:=HB2.out.cell (i:=0) (v:=.int .i64 0) rfl;have a1:=HB2.out.cell (i:=1) (v:=.int .i64 0) rfl;have z0:=HB2.out.frozen 0;have z1':=HB2.out.frozen 1;have Z2:=hid hz2;have hsz:s2.size≤s.size:=by omega
 have HSz:=hid hsz;clear k2 h2 r2 R1 HB1 HI1 HK1 hz2 hs hs1 hs2 hsz HN;go_wp2_with fail
 have HBf:=hid ((HB2.out.set 0 (.int .i64 z1)).set 1 (.int .i64 z2));have HIf:=hid ((HI2.out.far (p:=⟨g,0,none⟩) (fun h=>HQ.out h.symm) (.int .i64 z1)).far (p:=⟨g,1,none⟩) (fun h=>HQ.out h.symm) (.int .i64 z2));have HKf:=hid ((HK2.out.setCell (S:=fun g=>g=q) (p:=⟨g,0,none⟩) (.inr HG.out) (.int .i64 z1)).setCell (S:=fun g=>g=q) (p:=⟨g,1,none⟩) (.inr HG.out) (.int .i64 z2));exact bodyPost_ret (results_cell_row rfl _ _ g 51 _ (0,0) _ rfl HBf.out Tryz.underlying51 rfl (show(Tryz.prog.info? 51).map (·.size)=some 2 by kernel_rfl)) rfl ⟨z1,z2,s2,e2,rfl,Z1.out,Z2.out,HKf.out,HIf.out,HSz.out,RV.out⟩
end
section
open Go.RowKit
def accL (l:List FldI):List UInt8:=l.foldl (fun acc f=>if acc.length≤65536 then acc++f.enc else acc) []
theorem zet {l:List FldI} {k:Nat} (h:k<l.length):accL (l.take (k+1))=if(accL (l.take k)).length≤65536 then accL (l.take k)++l[k].enc else accL (l.take k):=by
 unfold accL;rw[List.take_succ_eq_append_getElem h,List.foldl_append];rfl
theorem zjS (l:List FldI):∀ k,k≤l.length→accL (l.take k)=encL (l.take k)∨(65536<(accL (l.take k)).length∧65536<(encL (l.take k)).length)
 | 0,_=>by left;rw[List.take_zero];rfl
 | k+1,hk=>by
  have hlt:k<l.length:=by omega
  have ih:=zjS l k (by omega);rw[zet hlt,zgq hlt];rcases ih with ih | ⟨i1,i2⟩
  ·by_cases hl:(accL (l.take k)).length≤65536
   ·rw[if_pos hl,ih];exact .inl rfl
   ·rw[if_neg hl]
    right
    rw[ih] at hl⊢;rw[List.length_append];exact⟨by omega,by omega⟩
  ·right
   rw[if_neg (by omega),List.length_append];exact⟨i1,by omega⟩
theorem zmD {l:List FldI} (h:65536<(encL l).length):65536<(accL l).length:=by
 have:=zjS l l.length (Nat.le_refl _);rw[List.take_length] at this;rcases this with h1 | ⟨h2,_⟩
 ·rw[h1];exact h
 ·exact h2
def capB (s:ByteArray):ByteArray:=if s.size≤65536 then s else⟨#[]⟩
def capL (l:List FldI):ByteArray:=capB ⟨(encL l).toArray⟩
theorem zd1 {l:List FldI} (h:(encL l).length≤65536):capL l=⟨(encL l).toArray⟩:=if_pos h
theorem zij {l:List FldI} (h:¬ (encL l).length≤65536):capL l=⟨#[]⟩:=if_neg h
theorem zjQ (s:ByteArray):(capB s).size≤65536:=by
 unfold capB
 split
 ·assumption
 ·exact Nat.zero_le _
theorem zlz (w:World) (q:Nat) (f:FldI) (A:Option Addr) (n c:Nat) (hn:65536<n) (hq:Blk w q 48 #[.slice A n c]):Calls Tryz.prog 89 #[.agg #[.int .i64 f.n,.string f.s,.bool f.t],.pointer (some ⟨q,0,none⟩)] w (fun en w'=>en=.returned (.tuple #[])∧Ext w w'):=by
 have HQ1:=hid (hq.alloc (.cells #[.int .i64 f.n,.string f.s,.bool f.t] 140));have X1:=hid (Ext.alloc w (.cells #[.int .i64 f.n,.string f.s,.bool f.t] 140));have d0:decide ((65536:Int)<n)=true:=decide_eq_true (by omega);have d0':decide (65536<n)=true:=decide_eq_true (by omega);have q0:=HQ1.out.cell (i:=0) (v:=.slice A n c) rfl;have ql:=HQ1.out.lt;clear hq hn;go_enter Tryz.func89,Tryz.ntmps89;go_wp2_with fail
 go_end0
 exact⟨rfl,X1.out⟩
theorem zgW (w:World) (v:Value) (l:List FldI) (h:Sl w 3 v (l.map FldI.cells)) (hok:∀ f∈l,f.ok) (hpos:0<l.length):Calls Tryz.prog 51 #[v] w (Ret (.tuple #[.string (capL l),.int .i64 (if(encL l).length≤65536 then 0 else 4)]) w):=by
 by_cases htot:(encL l).length≤65536
 ·rw[zd1 htot,if_pos htot]
  exact zl2 w v l h hok hpos htot
 rw[zij htot,if_neg htot];obtain⟨A,c,rfl,h1,h2,h3⟩:=zr h;unfold maxLen at h2;obtain⟨b,o,rfl,lb,hcell⟩:=h3 hpos;have HBig:=hid (zmD (l:=l) (by omega));have HQ0:=hid (Blk.new w 48 #[.slice none 0 0]);have HE0:=hid (Ext.alloc w (.cells #[.slice none 0 0] 48));have HOk:=hid (fun k (hk:k<l.length)=>hok _ (List.getElem_mem hk));have HC:=hid hcell;have hql:=Nat.le_refl w.heap.size;clear h h3 hcell hok htot;go_enter Tryz.func51,Tryz.ntmps51;go_wp2_with fail
 generalize w.alloc (.cells #[.slice none 0 0] 48)=w0 at HQ0 HE0⊢;generalize hq:w.heap.size=q at HQ0⊢;have hq':w.heap.size≤q:=by omega
 clear hq hql;go_loopw [13] (fun i wr=>∃ k:Nat,k≤l.length∧i=.int .i64 k∧Hid (Ext w0 wr)) (fun i _=>l.length-(intOf i).toNat)
 case atStart=>exact⟨0,by omega,rfl,Ext.refl _⟩
 case round=>
  obtain⟨k,hk,rfl,HE⟩:=hrel;by_cases hlt:k<l.length
  ·have hf:=HOk.out k hlt
   have c0:=(HE0.out.trans HE.out).cell (HC.out k hlt 0 _ rfl);have c1:=(HE0.out.trans HE.out).cell (HC.out k hlt 1 _ rfl);have c2:=(HE0.out.trans HE.out).cell (HC.out k hlt 2 _ rfl);rw[Nat.add_zero] at c0;have lbr:=Nat.lt_of_lt_of_le lb (HE0.out.trans HE.out).size;obtain⟨f1,f2,f3⟩:=hf;generalize l[k]=f at c0 c1 c2 f1 f2 f3;obtain⟨n,s,t⟩:=f;dsimp only at c0 c1 c2 f1 f2 f3;cases t with
   | true=>
    clear f1 f2 f3;go_wp2_with fail
    go_roundw
    case rel=>exact⟨k+1,by omega,by go_num,HE.out.trans (Ext.alloc _ _)⟩
    case measure=>simp[intOf];omega
   | false=>
    have dn:decide (n<0)=false:=decide_eq_false (by have:=f2 rfl;omega);clear f1 f2 f3;go_wp2_with fail
    go_roundw
    case rel=>exact⟨k+1,by omega,by go_num,HE.out.trans (Ext.alloc _ _)⟩
    case measure=>simp[intOf];omega
  ·obtain rfl:k=l.length:=by omega
   have HQ1:=hid (HQ0.out.ext HE.out);have HE1:=hid (HE0.out.trans HE.out);clear HQ0 HE0 HE;go_wp2_with fail
   go_loopw [28] (fun i W=>∃ (k:Nat) (bv:Value),k≤l.length∧i=.int .i64 k∧Hid (Ext w W)∧Hid (Blk W q 48 #[bv])∧Hid (OwnB (accL (l.take k)) w.heap.size bv W)∧Hid (bv.ownBlock≠some q)) (fun i _=>l.length-(intOf i).toNat)
   case atStart=>exact⟨0,_,by omega,rfl,HE1.out,HQ1.out,by rw[List.take_zero];exact OwnB.nil _ _,by unfold Hid;simp[Value.ownBlock]⟩
   case round=>
    obtain⟨k,bv,hk2,rfl,HE2,HQ2,HO2,HN2⟩:=hrel;by_cases hlt2:k<l.length
    ·have hf:=HOk.out k hlt2
     have c0:=HE2.out.cell (HC.out k hlt2 0 _ rfl);have c1:=HE2.out.cell (HC.out k hlt2 1 _ rfl);have c2:=HE2.out.cell (HC.out k hlt2 2 _ rfl);rw[Nat.add_zero] at c0;have lbr:=Nat.lt_of_lt_of_le lb HE2.out.size;have HT:=hid (zet hlt2);have HP:Hid (∀ W,Ext wr W→Calls Tryz.prog 89 #[.agg #[.int .i64 l[k].n,.string l[k].s,.bool l[k].t],.pointer (some ⟨q,0,none⟩)] W (PutTo W q w.heap.size bv (accL (l.take (k+1))))):=fun W hW=>by
      rw[zet hlt2];by_cases hfit:(accL (l.take k)).length≤65536
      ·rw[if_pos hfit]
       exact put_c W q w.heap.size l[k] (accL (l.take k)) bv hf (HQ2.out.ext hW) (HO2.out.ext hW) (Nat.le_trans HE2.out.size hW.size) HN2.out hfit
      ·rw[if_neg hfit]
       have ho:=HO2.out.ext hW;have hb:=HQ2.out.ext hW;have hn:=HN2.out;obtain⟨A3,c3,rfl,_⟩:=zr (code:=za4) ho.sl;refine(zlz W q l[k] A3 _ c3 (by omega) hb).mono ?_;rintro en W' ⟨rfl,x⟩;exact⟨rfl,_,hb.ext x,ho.ext x,hn,Keep.of_ext x⟩
     clear hf HT;generalize hacc:accL (l.take (k+1))=acc' at HP;have HA:=hid hacc;clear hacc;generalize l[k]=f at c0 c1 c2 HP;obtain⟨n,s,t⟩:=f;dsimp only at c0 c1 c2 HP;go_wp2_with fail
     refine((HP.out _ (Ext.alloc _ _))).mono ?_;rintro en w3 ⟨rfl,v',g1,g2,g3,g4⟩;have HQ3:=hid g1;have HO3:=hid g2;have HN3:=hid g3;have HE3:Hid (Ext w w3):=g4.toExt (HE2.out.trans (Ext.alloc _ _)) fun g hg=>by
      rcases hg with rfl | hg
      ·exact hq'
      ·exact(zt HO2.out.2 g hg).1
     clear g1 g2 g3 g4 HP;go_wp2_with fail
     go_roundw
     case rel=>exact⟨k+1,v',by omega,by go_num,HE3.out,HQ3.out,by rw[HA.out];exact HO3.out,HN3.out⟩
     case measure=>simp[intOf];omega
    ·obtain rfl:k=l.length:=by omega
     rw[List.take_length] at HO2;have hbig:=HBig.out;generalize accL l=acc at HO2 hbig;obtain⟨A3,c3,rfl,_⟩:=zr (code:=za4) HO2.out.sl;have b0:=HQ2.out.cell (i:=0) (v:=.slice A3 acc.length c3) rfl;have bl:=HQ2.out.lt;have dl:decide ((65536:Int)<acc.length)=true:=decide_eq_true (by omega);have dl':decide (65536<acc.length)=true:=decide_eq_true (by omega);clear HOk HC;go_wp2_with fail
     go_ret2;exact⟨rfl,HE2.out⟩
theorem zeH (w:World) (v:Value) (l:List FldI) (h:Sl w 3 v (l.map FldI.cells)) (hok:∀ f∈l,f.ok) (hpos:0<l.length):Calls Tryz.prog 138 #[v] w (Ret (.string (capL l)) w):=by
 have HL:=hid (zgW w v l h hok hpos);obtain⟨A,c,rfl,_⟩:=zr h;clear h hok;generalize capL l=r at HL⊢;generalize (if(encL l).length≤65536 then(0:Int) else 4)=z at HL;go_enter Tryz.func138,Tryz.ntmps138;go_wp2_with fail
 refine(HL.out).mono ?_;rintro e w1 ⟨rfl,x1⟩;go_wp2_with fail
 go_ret;exact⟨rfl,x1⟩
end
end Go.Proofs.YtofjpdgojoppbaaGreatDoor
