/-
  Of the claim's proof: LfS, SnF, KnN, SmB, OpM.
-/
import Derived.OpenShut
import Derived.Test.YtofjpdgojoppbaaGreatDoorT14
import Derived.Test.YtofjpdgojoppbaaGreatDoorT15
import Derived.Test.YtofjpdgojoppbaaGreatDoorT36
import Derived.Test.YtofjpdgojoppbaaGreatDoorT37
import Derived.Test.YtofjpdgojoppbaaGreatDoorT38
import Derived.Test.YtofjpdgojoppbaaGreatDoorT39
set_option maxRecDepth 100000
set_option maxHeartbeats 16000000
set_option linter.unusedVariables false
set_option linter.unusedSimpArgs false
namespace Go.Proofs.YtofjpdgojoppbaaGreatDoor
section
open Go.RowKit
def zbT (f:List ClauseI):Bool:=f.all (fun c=>decide (c.pre.size≤100))&&decide (f.length≤24)
theorem zck {f:List ClauseI}:zbT f=true↔ziv f∧f.length≤24:=by
 unfold zbT ziv;rw[Bool.and_eq_true,List.all_eq_true,decide_eq_true_eq];exact and_congr (forall_congr' fun c=>forall_congr' fun _=>decide_eq_true_iff) Iff.rfl
theorem zmh {f:List ClauseI} {k:Nat} (h:k<f.length) (ht:¬ f[k].pre.size≤100):zbT f=false:=by
 rw[Bool.eq_false_iff,Ne,zck];rintro⟨h1,_⟩;exact ht (h1 _ (List.getElem_mem h))
theorem zi9 (w:World) (v:Value) (f:List ClauseI) (h:Sl w 3 v (f.map ClauseI.cells)):Calls Tryz.prog 41 #[v] w (Ret (.bool (zbT f)) w):=by
 obtain⟨A,c,rfl,h1,h2,h3⟩:=zC h;unfold maxLen at h2;clear h;go_enter Tryz.func41,Tryz.ntmps41;go_wp2_with fail
 go_loopw [3] (fun i wr=>∃ k:Nat,k≤f.length∧i=.int .i64 k∧Ext w wr∧Hid (∀ j (hj:j<f.length),j<k→f[j].pre.size≤100)) (fun i _=>f.length-(intOf i).toNat)
 case atStart=>exact⟨0,by omega,rfl,Ext.refl _,fun j _ hj=>by omega⟩
 case round=>
  obtain⟨k,hk,rfl,hE,hno⟩:=hrel;have HE:=hid hE;by_cases hlt:k<f.length
  ·obtain⟨b,o,rfl,lb,hcell⟩:=h3 (by omega)
   have c0:=hE.cell (hcell k hlt 0 _ rfl);have c1:=hE.cell (hcell k hlt 1 _ rfl);have c2:=hE.cell (hcell k hlt 2 _ rfl);rw[Nat.add_zero] at c0;have lbr:=Nat.lt_of_lt_of_le lb hE.size;have HF:Hid (¬ f[k].pre.size≤100→zbT f=false):=fun e=>zmh hlt e;have HNx:Hid (f[k].pre.size≤100 → ∀ j (hj:j<f.length),j<k+1→f[j].pre.size≤100):=fun e j hj hjk=>by
    by_cases hjk':j=k
    ·subst hjk';exact e
    ·exact hno.out j hj (by omega)
   clear hcell h3 hE hno;generalize f[k]=x at *;by_cases hp:x.pre.size≤100
   ·have d0:decide ((100:Int)<x.pre.size)=false:=by simp;omega
    have HNx:=hid (HNx.out hp);clear HF hp;go_wp2_with fail
    go_roundw
    case rel=>exact⟨k+1,by omega,by go_num,HE.out,HNx.out⟩
    case measure=>simp[intOf];omega
   ·have d0:decide ((100:Int)<x.pre.size)=true:=by simp;omega
    have HF:=hid (HF.out hp);clear HNx hp;go_wp2_with fail
    go_ret;exact⟨by rw[HF.out];rfl,HE.out⟩
  ·obtain rfl:k=f.length:=by omega
   have hall:ziv f:=fun c hc=>by
    obtain⟨j,hj,rfl⟩:=List.getElem_of_mem hc;exact hno.out j hj hj
   have HB:Hid (zbT f=decide (f.length≤24)):=by
    unfold Hid;rw[Bool.eq_iff_iff,zck,decide_eq_true_eq];exact⟨fun h=>h.2,fun h=>⟨hall,h⟩⟩
   clear hE h3 hno hall;by_cases hl:f.length≤24
   ·have d1:decide ((f.length:Int)≤24)=true:=by simp;omega
    have HB:Hid (zbT f=true):=by rw[HB.out];exact decide_eq_true hl
    clear hl;go_wp2_with fail
    go_ret;exact⟨by rw[HB.out];rfl,HE.out⟩
   ·have d1:decide ((f.length:Int)≤24)=false:=by simp;omega
    have HB:Hid (zbT f=false):=by rw[HB.out];exact decide_eq_false hl
    clear hl;go_wp2_with fail
    go_ret;exact⟨by rw[HB.out];rfl,HE.out⟩
end
section
open Go.RowKit
def saneF (f:List ClauseI):List ClauseI:=f.filter za3
theorem zj6 {f:List ClauseI} {k:Nat} (h:k<f.length):saneF (f.take (k+1))=if za3 f[k] then saneF (f.take k)++[f[k]] else saneF (f.take k):=by
 unfold saneF;rw[List.take_succ_eq_append_getElem h,List.filter_append,List.filter_cons,List.filter_nil]
 split <;> simp
theorem zlM (f:List ClauseI) (k:Nat):(saneF (f.take k)).length≤k:=by
 have h1:=List.length_filter_le za3 (f.take k);rw[List.length_take] at h1;unfold saneF;omega
theorem znh (w:World) (v:Value) (l:List ClauseI) (h:Sl w 3 v (l.map ClauseI.cells)) (hl:l.length≤5000) (hs:ziv l):Calls Tryz.prog 43 #[v] w (RetQ (fun u W=>∃ sv:SlV,u=.slice sv.a sv.n sv.c∧RowT W 99 3 sv (saneF l).length ((saneF l).map ClauseI.cells).flatten) w):=by
 obtain⟨A,c,rfl,h1,h2,h3⟩:=zC h;unfold maxLen at h2;have HSz:=hid hs;clear h hs;go_enter Tryz.func43,Tryz.ntmps43;go_wp2_with fail
 go_loopw [3,4] (fun v i wr=>∃ (k:Nat) (ov:Value),ov=v∧k≤l.length∧i=.int .i64 k∧Ext w wr∧((saneF (l.take k)).length=0→v=.slice none 0 0)∧wr.ownsRow w.heap.size 99 3 v (saneF (l.take k)).length ((saneF (l.take k)).map ClauseI.cells).flatten) (fun _ i _=>l.length-(intOf i).toNat)
 case atStart=>exact⟨0,_,rfl,by omega,rfl,Ext.refl _,(fun _=>rfl),zB _ _ _ _⟩
 case round=>
  obtain⟨k,v,rfl,hk,rfl,hE,hz,hO⟩:=hrel;have HE:=hid hE;have HO:=hid hO;have HZ:=hid hz;by_cases hlt:k<l.length
  ·obtain⟨b',o,rfl,lb,hcell⟩:=h3 (by omega)
   have c0:=hE.cell (hcell k hlt 0 _ rfl);have c1:=hE.cell (hcell k hlt 1 _ rfl);have c2:=hE.cell (hcell k hlt 2 _ rfl);rw[Nat.add_zero] at c0;have lbr:=Nat.lt_of_lt_of_le lb hE.size;have HM:=hid (zj6 hlt);have hln:=zlM l k;have hsz:=HSz.out _ (List.getElem_mem hlt);clear hcell h3 hE hz hO;generalize saneF (l.take k)=acc at HO HZ HM hln;generalize l[k]=x at c0 c1 c2 HM hsz;have HC:=fun W=>hid (zg5 W x (by omega));unfold ClauseI.val at HC;cases hc:za3 x with
   | false=>
    rw[hc] at HC HM;rw[if_neg Bool.false_ne_true] at HM;clear hc;go_wp2_with (go_at_call 75;refine(HC _).out.mono ?_;rintro e w5 ⟨rfl,hx5⟩;have HX5:=hid hx5;clear hx5)
    go_roundw
    case rel=>exact⟨k+1,_,rfl,by omega,by go_num,HE.out.trans HX5.out,(by rw[HM.out];exact HZ.out),by rw[HM.out];exact zz HO.out HX5.out⟩
    case measure=>simp[intOf];omega
   | true=>
    rw[hc] at HC HM;rw[if_pos rfl] at HM;clear hc;go_wp2_with (first
     | (at_builtin;obtain⟨v',w6,hrun6,ho6,hk6,_⟩:=zaZ (P:=Tryz.prog) zlx clause_coded (zz HO.out HX5.out) (Nat.le_trans HE.out.size HX5.out.size) x (by omega) (by omega);simp only[ClauseI.cells] at hrun6;have HE6:=hid (hk6.toExt (HE.out.trans HX5.out) (fun q hq=>(zG HO.out q hq).1));have HO6:=hid ho6;clear ho6 hk6;refine zI rfl (.tmp 16) (.tmp 21) _ _ rfl rfl rfl hrun6 ?_)
     | (go_at_call 75;refine(HC _).out.mono ?_;rintro e w5 ⟨rfl,hx5⟩;have HX5:=hid hx5;have d0:=hx5.cell c0;have d1:=hx5.cell c1;have d2:=hx5.cell c2;have dl:=Nat.lt_of_lt_of_le lbr hx5.size;clear hx5))
    go_roundw
    case rel=>exact⟨k+1,_,rfl,by omega,by go_num,HE6.out,(fun h=>by rw[HM.out] at h;simp at h),by rw[HM.out];exact HO6.out⟩
    case measure=>simp[intOf];omega
  ·obtain rfl:k=l.length:=by omega
   rw[List.take_length] at hO hz;obtain⟨sv,rfl⟩:=zcO hO;have HR:=hid (zas hO (Nat.zero_le _));unfold SlV.val;clear hE h3 hz hO HO HZ;go_wp2_with fail
   go_ret;exact⟨_,rfl,⟨sv,rfl,HR.out⟩,HE.out⟩
theorem zln (a b:Int) (w:World):Calls Tryz.prog 42 #[.int .i64 a,.int .i64 b] w (Ret (.int .i64 (min a b)) w):=by
 by_cases h:a<b
 ·have d0:decide (a<b)=true:=decide_eq_true h
  have e:min a b=a:=by omega
  rw[e];clear h e;go_enter Tryz.func42,Tryz.ntmps42;go_wp2_with fail
  go_ret;exact⟨rfl,Ext.refl _⟩
 ·have d0:decide (a<b)=false:=decide_eq_false h
  have e:min a b=b:=by omega
  rw[e];clear h e;go_enter Tryz.func42,Tryz.ntmps42;go_wp2_with fail
  go_ret;exact⟨rfl,Ext.refl _⟩
theorem zfL {w:World} {sz n c k:Nat} {A:Option Addr} {xs:List (List Value)} (h:Sl w sz (.slice A n c) xs) (hk:k≤n):Sl w sz (.slice A k c) (xs.take k):=by
 obtain⟨A',c',hv,h1,h2,h3⟩:=h;injection hv with hA hn hc
 subst hA hn hc;refine⟨A,c,by rw[List.length_take,Nat.min_eq_left hk],by rw[List.length_take];omega,h2,fun hp=>?_⟩;rw[List.length_take] at hp;obtain⟨b,o,hb,hlt,hcell⟩:=h3 (by omega);refine⟨b,o,hb,hlt,fun i x j u hx hu=>?_⟩;rw[List.getElem?_take] at hx
 split at hx
 ·exact hcell i x j u hx hu
 ·cases hx
def zaf (x:FragI):FragI:=⟨saneF (if zbT x.f then x.f else []),x.v,x.n.take 12⟩
def saneK (k:KnowI):KnowI:=⟨(k.fs.take 6).map zaf,k.ks.take 12⟩
def FragS (w0 w:World) (c:FragC) (x:FragI):Prop:=c.v=x.v∧RowT w 99 3 c.f x.f.length (x.f.map ClauseI.cells).flatten∧Sl w0 2 c.n.val (x.n.map Ver.cells)
theorem FragS.at {w0 w:World} {c:FragC} {x:FragI} (h:FragS w0 w c x) (he:Ext w0 w):FragAt w c x:=
 ⟨h.1,zaB (xs:=x.f.map ClauseI.cells) (clause_coded.sizes _) (by rw[List.length_map];exact h.2.1),h.2.2.ext he⟩
theorem FragS.ext {w0 w w':World} {c:FragC} {x:FragI} (h:FragS w0 w c x) (he:Ext w w'):FragS w0 w' c x:=⟨h.1,zz h.2.1 he,h.2.2⟩
theorem FragS.keepBlk {w0 w w':World} {c:FragC} {x:FragI} {q:Nat} {t:TypeId} {cs:Array Value} (h:FragS w0 w c x) (hb:Blk w q t cs) (h1:99≠t) (hk:Keep (fun g=>g=q) w w'):FragS w0 w' c x:=
 ⟨h.1,zw h.2.1 hk (fun g hg hq=>zD h.2.1 hb h1 (by rw[←hq];exact hg)),h.2.2⟩
theorem FragS.keepRow {w0 w w':World} {c:FragC} {x:FragI} {B sz n:Nat} {t:TypeId} {v:Value} {xs:List Value} (h:FragS w0 w c x) (hr:w.ownsRow B t sz v n xs) (h1:99≠t) (hk:Keep (fun g=>v.ownBlock=some g) w w'):FragS w0 w' c x:=
 ⟨h.1,zw h.2.1 hk (fun g hg hq=>zen h.2.1 hr h1 g hg hq),h.2.2⟩
theorem zkG {o:Oper} {a:Act} {x:Operand} {X:Array Value} {W:World} (ho:o.op=.buildSlice 26 1 #[(0,x)]) (hx:a.eval x=.agg X) (hX:X.size=67):Gives Tryz.prog (fun v w'=>v=.slice (some ⟨W.heap.size,0,none⟩) 1 1∧w'=W.alloc (.cells X 85)) ((execOp a.eval o).run Tryz.prog W):=by
 have:=zgQ W X hX;simp[execOp,ho,hx,Gives,this,Result.andThen]
theorem row_one {w:World} {g:Nat} {X:Array Value} (h:Blk w g 85 X) (hX:X.size=67):w.ownsRow 0 85 67 (.slice (some ⟨g,0,none⟩) 1 1) 1 X.toList:=
 ⟨by rw[Array.length_toList,hX],.inr ⟨g,1,X,rfl,Nat.zero_le _,h,Nat.le_refl _,by unfold maxLen;omega,by rw[hX],by rw[List.take_of_length_le];rw[Array.length_toList,hX];omega⟩⟩
attribute [-simp] Tryz.isAgg33 Tryz.isAgg85 Tryz.sizeOf85
theorem zcG {w0 W:World} {v:Value} {zs:List (FragC×FragI)} {B:Nat} (hE:Ext w0 W) (hu:W.ownsRow B 85 67 v zs.length (zs.map FragP.list).flatten) (hl:∀ z∈zs,FragS w0 W z.1 z.2):FragsAt W v (zs.map (·.2)):=by
 refine⟨zs.map (·.1),by simp,fun i c x h1 h2=>?_,?_⟩
 ·rw[List.getElem?_map] at h1 h2
  obtain⟨z,hz,rfl⟩:=Option.map_eq_some_iff.1 h1;rw[hz] at h2;injection h2 with h2
  subst h2;exact(hl z (List.mem_of_getElem? hz)).at hE
 ·have e:(zs.map (·.1)).map FragC.list=zs.map FragP.list:=by rw[List.map_map];rfl
  rw[e];exact zaB (xs:=zs.map FragP.list) (fragP_coded.sizes _) (by rw[List.length_map];exact hu)
theorem zlO (wB w:World) (ua va:Value) (a:KnowI) (ha:KnowAt wB ua va a) (hB:Ext wB w):Calls Tryz.prog 14 #[.agg #[ua,va]] w (RetQ (fun y W=>∃ u v:SlV,y=.agg #[.slice u.a u.n u.c,.slice v.a v.n v.c]∧KnowAt W u.val v.val (saneK a) ∧ ∀ q (t:TypeId) cs W',85≠t→99≠t→wB.heap.size≤q→Blk W q t cs→Keep (fun g=>g=q) W W'→KnowAt W' u.val v.val (saneK a)) w):=by
 have HBs:=hid hB;obtain⟨⟨cs,hcl,hca,hcs⟩,hak⟩:=ha;obtain⟨A,c1,rfl,h1,h2,h3⟩:=zC hcs;obtain⟨C,c3,rfl,p1,p2,p3⟩:=zC hak;obtain⟨fa,ia⟩:=a;unfold maxLen at h2 p2;dsimp only at *;have HAk:=hid hak;have HCL:=hid hcl;have H3:=hid h3;have HP0:=hid (((Blk.new w 29 #[.slice A cs.length c1,.slice C ia.length c3]).alloc (.cells #[.slice none 0 0,.slice none 0 0] 29)).alloc (.cells #[.slice none 0 0,.slice none 0 0] 29));have HR0:=hid ((Blk.new (w.alloc (.cells #[.slice A cs.length c1,.slice C ia.length c3] 29)) 29 #[.slice none 0 0,.slice none 0 0]).alloc (.cells #[.slice none 0 0,.slice none 0 0] 29))
 have HO0:=hid (Blk.new ((w.alloc (.cells #[.slice A cs.length c1,.slice C ia.length c3] 29)).alloc (.cells #[.slice none 0 0,.slice none 0 0] 29)) 29 #[.slice none 0 0,.slice none 0 0]);simp only[World.size_alloc] at HR0 HO0;have HE0:=hid (((Ext.alloc w (.cells #[.slice A cs.length c1,.slice C ia.length c3] 29)).alloc' (.cells #[.slice none 0 0,.slice none 0 0] 29)).alloc' (.cells #[.slice none 0 0,.slice none 0 0] 29));clear hcs hak h3 p3 hcl;go_enter Tryz.func14,Tryz.ntmps14;go_wp2_with fail
 generalize ((w.alloc (.cells #[.slice A cs.length c1,.slice C ia.length c3] 29)).alloc (.cells #[.slice none 0 0,.slice none 0 0] 29)).alloc (.cells #[.slice none 0 0,.slice none 0 0] 29)=w0 at HP0 HR0 HO0 HE0⊢;obtain⟨gP,hgP⟩:∃ g,w.heap.size=g:=⟨_,rfl⟩
 obtain⟨gR,hgR⟩:∃ g,w.heap.size+1=g:=⟨_,rfl⟩
 obtain⟨gO,hgO⟩:∃ g,w.heap.size+1+1=g:=⟨_,rfl⟩
 have HG9:Hid (w.heap.size≤gP∧w.heap.size≤gR∧w.heap.size≤gO∧gP≠gO∧gR≠gO):=by unfold Hid;omega
 rw[hgO] at HO0⊢;rw[hgR] at HR0⊢;rw[hgP] at HP0⊢;clear hgP hgR hgO;go_loopw [4] (fun s4 wr=>∃ (k:Nat) (v:Value) (zs:List (FragC×FragI)),k≤cs.length∧k≤6∧s4=.int .i64 k∧zs.length=k∧Hid (zs.map (·.2)=(fa.take k).map zaf)∧Hid (Ext w wr)∧Hid (Blk wr gP 29 #[.slice A cs.length c1,.slice C ia.length c3])∧Hid (Blk wr gR 29 #[.slice none 0 0,.slice none 0 0])∧Hid (Blk wr gO 29 #[v,.slice none 0 0])∧Hid (∀ z∈zs,FragS wB wr z.1 z.2)∧Hid (wr.ownsRow w.heap.size 85 67 v zs.length (zs.map FragP.list).flatten)) (fun s4 _=>cs.length-(intOf s4).toNat)
 case atStart=>exact⟨0,_,[],by omega,by omega,rfl,rfl,rfl,HE0,HP0,HR0,HO0,(fun z hz=>by cases hz),zB _ _ _ _⟩
 case round=>
  obtain⟨k,v,zs,hk,hk6,rfl,hzl,hzm,hE,hP,hR,hO,hS,hW⟩:=hrel;clear HP0 HR0 HO0 HE0;have z0:=hP.out.cell (i:=0) rfl;have y1:=hP.out.lt;by_cases hk1:k<cs.length
  ·have d1:decide ((k:Int)<cs.length)=true:=decide_eq_true (by omega)
   have d1':decide (k<cs.length)=true:=decide_eq_true hk1;by_cases hk2:k<6
   ·have d2:decide ((k:Int)<6)=true:=decide_eq_true (by omega)
    have d2':decide (k<6)=true:=decide_eq_true hk2;have hka:k<fa.length:=by rw[←HCL.out];exact hk1
    obtain⟨b1,o1,rfl,lb1,g1⟩:=H3.out (by omega);obtain⟨ea,sfa,sna⟩:=hca k cs[k] fa[k] (List.getElem?_eq_getElem hk1) (List.getElem?_eq_getElem hka);have hzm2:Hid ((fa.take (k+1)).map zaf=(fa.take k).map zaf++[zaf fa[k]]):=by
     unfold Hid;rw[List.take_succ_eq_append_getElem hka,List.map_append];rfl
    have HG:=hid (fun j u (hu:(cs[k].arr)[j]? = some u)=>(HBs.out.trans hE.out).cell (g1 k hk1 j u (by unfold FragC.arr at hu;simpa using hu)));have hzs:=hid (zbg cs[k]);have HOn:=hid (zbG cs[k]);have HF0:Hid ((cs[k].arr)[0]? = some cs[k].f.val):=by unfold Hid FragC.arr;rw[List.getElem?_toArray];exact fragC_f _
    have HF66:Hid ((cs[k].arr)[66]? = some cs[k].n.val):=by unfold Hid FragC.arr;rw[List.getElem?_toArray];exact zd2 _
    have HFv:=hid (fun j v (h:(vecV cs[k].v)[j]? = some v)=>(show(cs[k].arr)[1+j]? = some v by unfold FragC.arr;rw[List.getElem?_toArray];exact zd1 cs[k] j v h));have hz1:=hid (show(vecV cs[k].v).size=65 by rw[zm];exact cs[k].hv);have hvl:=hid cs[k].hv;have lr1:=Nat.lt_of_lt_of_le lb1 (HBs.out.trans hE.out).size;rw[ea] at HFv hz1 hvl;clear g1 lb1 ea hca H3;generalize cs[k]=c at HG hzs HOn HF0 HF66 HFv sfa sna;generalize hfx:zaf fa[k]=xs at hzm2;generalize fa[k]=x at HFv hz1 hvl sfa sna hfx;have HFx:=hid hfx;clear hfx;generalize c.arr=arr at HG hzs HOn HF0 HF66 HFv;obtain⟨⟨f1,f2,f3⟩,_,⟨n1,n2,n3⟩,_⟩:=c
    simp only[SlV.val] at HF0 HF66 sfa sna;have HLt:=fun W (hW:Ext w W)=>hid (zi9 W _ x.f (sfa.ext (HBs.out.trans hW)));have hn2:n2=x.n.length∧n2≤n3∧n3≤9223372036854775807:=by
     obtain⟨A',c',hv,q1,q2,_⟩:=zC sna;unfold maxLen at q2;injection hv with _ e1 e2
     omega
    obtain⟨t,ht⟩:∃ t:Nat,min (n2:Int) 12=(t:Int):=⟨min n2 12,by omega⟩
    have HLow:=fun W=>hid (zln n2 12 W);rw[ht] at HLow;have htk:Hid (t≤n2∧x.n.take t=x.n.take 12):=by
     have h9:t=min n2 12:=by omega
     refine⟨by omega,?_⟩;rw[h9,hn2.1,←List.take_take];exact List.take_of_length_le (by rw[List.length_take];omega)
    have hSn:=hid (zfL sna htk.out.1);have hSfa:=hid sfa;have t1:t≤n3:=by have:=htk.out;omega
    have t2:=hn2.2.2;clear sna sfa hn2 ht;go_wp2_with fail
    simp only[Tryz.sizeOf85,Result.andThen];rw[Oper.upon_value];go_wp2_with fail
    simp only[Tryz.isAgg85,Tryz.sizeOf85,Result.andThen,↓reduceIte,zy HG.out 67 hzs.out];rw[Oper.upon_value];go_wp2_with fail
    have HB3:=hid (Blk.new wr 85 fragZ);simp only[Tryz.sizeOf85,Result.andThen,↓reduceIte,zg HB3.out (by rw[hzs.out];exact zbs) (by rw[hzs.out,za1]) HOn.out,hzs.out];rw[Oper.upon_skip];rw[World.setRow_alloc_new];clear HB3 HG;have X2:=hid (Ext.alloc wr (.cells arr 85));have HB2:=hid (Blk.new wr 85 arr);have cf:=HB2.out.cell HF0.out;have bl:=HB2.out.lt;go_wp2_with fail
    refine((HLt _ (hE.out.trans X2.out)).out).mono ?_;rintro en w3 ⟨rfl,x3⟩;have X3:=hid (X2.out.trans x3);have HB3:=hid (HB2.out.ext x3);clear cf bl x3 X2 HB2 HLt;have cn:=HB3.out.cell HF66.out;have bl:=HB3.out.lt;clear z0 y1;obtain⟨f9,hf9⟩:∃ f9:List ClauseI,(if zbT x.f then x.f else [])=f9:=⟨_,rfl⟩
    have HFx2:Hid ((zaf x).f=saneF f9):=by unfold Hid zaf;rw[hf9]
    cases hl:zbT x.f
    case' true=>
     have HSa:=fun W (hW:Ext w W)=>hid (znh W _ x.f (hSfa.out.ext (HBs.out.trans hW)) (by have:=(zck.1 hl).2;omega) (zck.1 hl).1);rw[hl,if_pos rfl] at hf9
    case' false=>
     have HSa:=fun W (hW:Ext w W)=>hid (znh W (.slice none 0 0) [] (Sl.nil W 3) (by simp) (fun c hc=>by cases hc));rw[hl,if_neg Bool.false_ne_true] at hf9
    all_goals
     rw[hf9] at HSa;clear hl hSfa hf9;go_wp2_with fail
     refine((HLow _).out).mono ?_;rintro en w4 ⟨rfl,x4⟩;have X4:=hid (X3.out.trans x4);have HB4:=hid (HB3.out.ext x4);have HO4:=hid (hO.out.ext X4.out);have E4:=hid (hE.out.trans X4.out);clear cn bl x4 X3 HB3 HLow;have cn:=HB4.out.cell HF66.out;have bl:=HB4.out.lt;have o0:=HO4.out.cell (i:=0) rfl;have ol:=HO4.out.lt;have HV4:=hid (fun j u (h:(vecV x.v)[j]? = some u)=>HB4.out.cell (HFv.out j u h));go_wp2_with fail
     refine zfK 47 (.pointer (some ⟨gO,0,none⟩)) 12 (pre:=?pre1) (z1:=?z11) (p:=?p11) (z2:=?z21) ?hpre1 ?htl1 (by kernel_rfl) (by kernel_rfl) (by kernel_rfl) (by kernel_rfl) (by kernel_rfl) ?hpd1 ?hpg1 (by kernel_rfl) ?hps1 (by kernel_rfl) ?hpx1 ?_
     case hpre1=>(simp only[List.take_succ_cons,List.take_zero];first | done | exact rfl)
     case htl1=>(simp only[List.drop_succ_cons,List.drop_zero];first | done | exact rfl)
     case hpd1=>exact rfl
     case hpg1=>exact rfl
     case hps1=>exact rfl
     case hpx1=>(intro wc;go_simp;dsimp only[Gives];exact⟨rfl,rfl⟩)
     repeat (first
      | (refine AWq.val rfl rfl rfl rfl (fun K hK=>?_);go_big_quiet_op;refine hK _ ?_;clear hK K)
      | (refine AWq.skip rfl rfl rfl ?_;simp only[Act.put,zq6,zq7,zq8])
      | (refine AWq.callQ ((fun u W=>∃ sv:SlV,u=.slice sv.a sv.n sv.c∧RowT W 99 3 sv (saneF f9).length ((saneF f9).map ClauseI.cells).flatten)) ((fun v _ _ he h=>h.imp fun sv h=>⟨h.1,zz h.2 he⟩)) rfl Tryz.func43 (by kernel_rfl) (by kernel_rfl) rfl rfl rfl (fun wc hc=>?_) ?_;(· (simp only[zo,zu,↓reduceIte,Nat.reduceEqDiff,zq1,zq2,zq3,zq4,zq5];exact(HSa wc (E4.out.trans hc)).out)))
      | (refine AWq.val rfl rfl rfl rfl (fun K hK=>?_);refine zJ rfl rfl (fun wc hwc=>by obtain⟨E,rfl⟩:=hwc;exact zai hz1.out (fun j v hv=>(Ext.of_wext _ _).cell (HV4.out j v hv))) (hK _ ?_);clear hK K;simp only[Act.put,zq6,zq7,zq8])
      | (refine AWq.opQ (fun u W=>∃ sv:SlV,u=.agg (FragC.mk sv x.v ⟨n1,t,n3⟩ hvl.out).arr∧RowT W 99 3 sv (saneF f9).length ((saneF f9).map ClauseI.cells).flatten) (fun u a b he h=>h.imp fun sv h=>⟨h.1,zz h.2 he⟩) rfl (fun a wc hc hl'=>⟨rfl,?_⟩) ?_;(· (have e37:∃ sv:SlV,a.tmps.getD 37 undef=.slice sv.a sv.n sv.c∧RowT wc 99 3 sv (saneF f9).length ((saneF f9).map ClauseI.cells).flatten:=hl' 37 (of_decide_eq_true (by kernel_rfl));have e39:a.tmps.getD 39 undef=.agg (vecV x.v):=hl' 39 (of_decide_eq_true (by kernel_rfl));have e43:a.tmps.getD 43 undef=.slice n1 t n3:=hl' 43 (of_decide_eq_true (by kernel_rfl));obtain⟨sv,e37,r37⟩:=e37;refine zfE 85 #[(0,.tmp 37),(1,.tmp 39),(2,.tmp 43)] (FragC.mk sv x.v ⟨n1,t,n3⟩ hvl.out).arr rfl ?_ ⟨⟨sv,rfl,r37⟩,Ext.refl _⟩;(have f37:a.eval (.tmp 37)=_:=e37);(have f39:a.eval (.tmp 39)=_:=e39);(have f43:a.eval (.tmp 43)=_:=e43);simp only[List.map_toArray,List.map_cons,List.map_nil,f37,f39,f43];exact zgB (FragC.mk sv x.v ⟨n1,t,n3⟩ hvl.out))))
      | (refine AWq.opQ (fun u W=>∃ (sv:SlV) (g:Nat),u=.slice (some ⟨g,0,none⟩) 1 1∧Blk W g 85 (FragC.mk sv x.v ⟨n1,t,n3⟩ hvl.out).arr∧RowT W 99 3 sv (saneF f9).length ((saneF f9).map ClauseI.cells).flatten) (fun u a b he ⟨sv,g,h1,h2,h3⟩=>⟨sv,g,h1,h2.ext he,zz h3 he⟩) rfl (fun a wc hc hl'=>⟨rfl,?_⟩) ?_;(· (have e44:∃ sv:SlV,a.tmps.getD 44 undef=.agg (FragC.mk sv x.v ⟨n1,t,n3⟩ hvl.out).arr∧RowT wc 99 3 sv (saneF f9).length ((saneF f9).map ClauseI.cells).flatten:=hl' 44 (of_decide_eq_true (by kernel_rfl));obtain⟨sv,e44,r44⟩:=e44;refine Gives.mono (fun u W' hu=>?_) (zkG (a:=a) (x:=.tmp 44) rfl e44 (zbg _));obtain⟨rfl,rfl⟩:=hu;exact⟨⟨sv,_,rfl,Blk.new _ _ _,zz r44 (Ext.alloc _ _)⟩,Ext.alloc _ _⟩))))
     refine AWq.three rfl rfl rfl rfl rfl (fun w5 x5=>?_)
     have HNew:Hid (∀ (sv:SlV) (g:Nat),Blk w5 g 85 (FragC.mk sv x.v ⟨n1,t,n3⟩ hvl.out).arr→RowT w5 99 3 sv (saneF f9).length ((saneF f9).map ClauseI.cells).flatten → ∃ (s':SlV) (w6:World),(Builtin.append_ #[26,26] 26 #[v,.slice (some ⟨g,0,none⟩) 1 1]).run Tryz.prog w5=.ok (.slice s'.a s'.n s'.c) w6∧Ext w w6∧Blk w6 gP 29 #[.slice (some ⟨b1,o1,none⟩) cs.length c1,.slice C ia.length c3]∧Blk w6 gR 29 #[.slice none 0 0,.slice none 0 0]∧Blk w6 gO 29 #[v,.slice none 0 0] ∧ ∃ z:FragC×FragI,z.2=xs∧(∀ y∈zs++[z],FragS wB w6 y.1 y.2)∧w6.ownsRow w.heap.size 85 67 (.slice s'.a s'.n s'.c) (zs++[z]).length ((zs++[z]).map FragP.list).flatten):=by
      intro sv g hb hr;have hX5:=X4.out.trans x5;have hw5:=zz hW.out hX5;obtain⟨v',w6,hr6,ho6,hk6,-,-⟩:=zc6 (P:=Tryz.prog) (tx:=26) (ty:=26) frag_elem hw5 ((hE.out.trans hX5).size) (zhU frag_elem.slice (row_one hb (zbg _)) (by rw[show(FragC.mk sv x.v ⟨n1,t,n3⟩ hvl.out).arr.toList=(FragC.mk sv x.v ⟨n1,t,n3⟩ hvl.out).list from rfl];exact fragC_oneL _)) (by unfold maxLen;omega) (by have h10:zs.length≤10:=(by omega);omega);obtain⟨s',rfl⟩:=zcO ho6;unfold SlV.val at hr6 ho6
      refine⟨s',w6,hr6,hk6.toExt (hE.out.trans hX5) (fun q hq=>(zG hw5 q hq).1),Blk.keep (hP.out.ext hX5) hk6 (fun h=>zD hw5 (hP.out.ext hX5) (by decide) h),Blk.keep (hR.out.ext hX5) hk6 (fun h=>zD hw5 (hR.out.ext hX5) (by decide) h),Blk.keep (hO.out.ext hX5) hk6 (fun h=>zD hw5 (hO.out.ext hX5) (by decide) h),(FragC.mk sv x.v ⟨n1,t,n3⟩ hvl.out,xs),rfl,?_,?_⟩
      ·intro y hy
       rcases List.mem_append.1 hy with hy | hy
       ·exact((hS.out y hy).ext hX5).keepRow hw5 (by decide) hk6
       ·rw[List.mem_singleton.1 hy]
        refine FragS.keepRow (w:=w5) ⟨?_,?_,?_⟩ hw5 (by decide) hk6
        ·rw[←HFx.out];rfl
        ·show RowT w5 _ 3 sv xs.f.length (xs.f.map ClauseI.cells).flatten
         rw[←HFx.out,HFx2.out];exact hr
        ·show Sl wB 2 (.slice n1 t n3) (xs.n.map Ver.cells)
         have e9:xs.n=x.n.take t:=by rw[←HFx.out,htk.out.2];rfl
         rw[e9,List.map_take];exact hSn.out
      ·have e:(zs++[(FragC.mk sv x.v ⟨n1,t,n3⟩ hvl.out,xs)]).map FragP.list=zs.map FragP.list++[(FragC.mk sv x.v ⟨n1,t,n3⟩ hvl.out).arr.toList]:=by rw[List.map_append];rfl
       rw[e,List.flatten_append,List.length_append];simpa using ho6
     clear cn bl o0 ol HV4 HB4 HSa
     constructor
     ·simp only[zt,Act.put,zq6,zq7,zq8]
      rintro u45 ⟨sv,g,rfl,hb5,hr5⟩ u44-u37 -;obtain⟨s',w6,hr6,hE6,hP6,hR6,hO6,z,hz9,hS6,hW6⟩:=HNew.out sv g hb5 hr5;have HE6:=hid hE6;have HP6:=hid hP6;have HR6:=hid hR6;have HO6:=hid hO6;have HS6:=hid hS6;have HW6:=hid hW6;have HZ:=hid hz9;have o0:=hO6.cell (i:=0) rfl;have o1':=hO6.frozen 0;have ol:=hO6.lt;clear hb5 hr5 hE6 hP6 hR6 hO6 hS6 hW6 hz9 HNew;go_wp2_with (at_builtin;refine zI rfl (.tmp 35) (.tmp 45) _ _ rfl rfl rfl hr6 ?_)
      have k7:Keep (fun q=>q=gO) w6 (w6.setCell ⟨gO,0,none⟩ (.slice s'.a s'.n s'.c)):=Keep.setCell (S:=fun q=>q=gO) (Keep.refl _ w6) (p:=⟨gO,0,none⟩) (.inl rfl) (.slice s'.a s'.n s'.c);go_roundw
      case rel=>exact⟨k+1,.slice s'.a s'.n s'.c,zs++[z],by omega,by omega,by go_num,by rw[List.length_append,hzl];rfl,by rw[hzm2.out,List.map_append,hzm.out,←HZ.out];rfl,Ext.setCell' HE6.out (p:=⟨gO,0,none⟩) HG9.out.2.2.1 (.slice s'.a s'.n s'.c),Blk.keep HP6.out k7 HG9.out.2.2.2.1,Blk.keep HR6.out k7 HG9.out.2.2.2.2,HO6.out.set 0 (.slice s'.a s'.n s'.c),fun y hy=>(HS6.out y hy).keepBlk HO6.out (by decide) k7,zw HW6.out k7 (fun q hq hs=>zD HW6.out HO6.out (by decide) (by rw[←hs];exact hq))⟩
      case measure=>simp[intOf];omega
     ·simp only[zt,Act.put,zq6,zq7,zq8]
      rintro u45 ⟨sv,g,rfl,hb5,hr5⟩ u44-u37 -;obtain⟨s',w6,hr6,hE6,hP6,hR6,hO6,z,hz9,hS6,hW6⟩:=HNew.out sv g hb5 hr5;have HE6:=hid hE6;have HP6:=hid hP6;have HR6:=hid hR6;have HO6:=hid hO6;have HS6:=hid hS6;have HW6:=hid hW6;have HZ:=hid hz9;have o0:=hO6.cell (i:=0) rfl;have o1':=hO6.frozen 0;have ol:=hO6.lt;clear hb5 hr5 hE6 hP6 hR6 hO6 hS6 hW6 hz9 HNew;go_wp2_with (at_builtin;refine zI rfl (.tmp 35) (.tmp 45) _ _ rfl rfl rfl hr6 ?_)
      have k7:Keep (fun q=>q=gO) w6 (w6.setCell ⟨gO,0,none⟩ (.slice s'.a s'.n s'.c)):=Keep.setCell (S:=fun q=>q=gO) (Keep.refl _ w6) (p:=⟨gO,0,none⟩) (.inl rfl) (.slice s'.a s'.n s'.c);go_roundw
      case rel=>exact⟨k+1,.slice s'.a s'.n s'.c,zs++[z],by omega,by omega,by go_num,by rw[List.length_append,hzl];rfl,by rw[hzm2.out,List.map_append,hzm.out,←HZ.out];rfl,Ext.setCell' HE6.out (p:=⟨gO,0,none⟩) HG9.out.2.2.1 (.slice s'.a s'.n s'.c),Blk.keep HP6.out k7 HG9.out.2.2.2.1,Blk.keep HR6.out k7 HG9.out.2.2.2.2,HO6.out.set 0 (.slice s'.a s'.n s'.c),fun y hy=>(HS6.out y hy).keepBlk HO6.out (by decide) k7,zw HW6.out k7 (fun q hq hs=>zD HW6.out HO6.out (by decide) (by rw[←hs];exact hq))⟩
      case measure=>simp[intOf];omega
   ·obtain rfl:k=6:=by omega
    have hzm6:Hid (zs.map (·.2)=(fa.take 6).map zaf):=by
     first
      | exact hzm.out
      | (show _=_;rw[hzm.out,List.take_of_length_le (by have:=HCL.out;omega),List.take_of_length_le (by have:=HCL.out;omega)])
    have z1:=hP.out.cell (i:=1) rfl;obtain⟨s0,rfl⟩:=zcO hW.out;obtain⟨t,ht⟩:∃ t:Nat,min (ia.length:Int) 12=(t:Int):=⟨min ia.length 12,by omega⟩
    have HLow:=fun W=>hid (zln ia.length 12 W);rw[ht] at HLow;have htk:Hid (t≤ia.length∧ia.take t=ia.take 12):=by
     have h9:t=min ia.length 12:=by omega
     refine⟨by omega,?_⟩;rw[h9,←List.take_take];exact List.take_of_length_le (by rw[List.length_take];omega)
    have hSk:=hid (zfL HAk.out htk.out.1);have t1:t≤c3:=by have:=htk.out;omega
    clear ht hca H3 HAk;go_wp2_with fail
    refine((HLow _).out).mono ?_;rintro en w4 ⟨rfl,x4⟩;have HP4:=hid (hP.out.ext x4);have HR4:=hid (hR.out.ext x4);have HO4:=hid (hO.out.ext x4);have HE4:=hid (hE.out.trans x4);have HW4:=hid (zz hW.out x4);have HS4:Hid (∀ z∈zs,FragS wB w4 z.1 z.2):=fun z hz=>(hS.out z hz).ext x4;clear z0 z1 y1 x4 hP hR hO hE hW hS HLow;have z1:=HP4.out.cell (i:=1) rfl;have y1:=HP4.out.lt;have o0:=HO4.out.cell (i:=0) rfl;have o1:=HO4.out.cell (i:=1) rfl;have o2:=HO4.out.frozen 1;have ol:=HO4.out.lt;have r0:=HR4.out.cell (i:=0) rfl;have r1:=HR4.out.cell (i:=1) rfl;have r2:=HR4.out.frozen 0;have r3:=HR4.out.frozen 1;have rl:=HR4.out.lt
    have hne:¬ gO=gR:=fun h=>HG9.out.2.2.2.2 h.symm;have hne':¬ gR=gO:=fun h=>HG9.out.2.2.2.2 h;unfold SlV.val at o0;go_wp2_with fail
    have kA:Keep (fun q=>q=gO∨q=gR) w4 (((w4.setCell ⟨gO,1,none⟩ (.slice C t c3)).setCell ⟨gR,0,none⟩ (.slice s0.a s0.n s0.c)).setCell ⟨gR,1,none⟩ (.slice C t c3)):=
     Keep.setCell (S:=fun q=>q=gO∨q=gR) (Keep.setCell (S:=fun q=>q=gO∨q=gR) (Keep.setCell (S:=fun q=>q=gO∨q=gR) (Keep.refl _ w4) (p:=⟨gO,1,none⟩) (.inl (.inl rfl)) (.slice C t c3)) (p:=⟨gR,0,none⟩) (.inl (.inr rfl)) (.slice s0.a s0.n s0.c)) (p:=⟨gR,1,none⟩) (.inl (.inr rfl)) (.slice C t c3)
    have kO:Keep (fun q=>q=gO) w4 (w4.setCell ⟨gO,1,none⟩ (.slice C t c3)):=Keep.setCell (S:=fun q=>q=gO) (Keep.refl _ w4) (p:=⟨gO,1,none⟩) (.inl rfl) (.slice C t c3);have HF:Hid (Blk _ gR 29 #[.slice s0.a s0.n s0.c,.slice C t c3]):=((Blk.keep HR4.out kO hne').set 0 (.slice s0.a s0.n s0.c)).set 1 (.slice C t c3);have hE9:Ext w (((w4.setCell ⟨gO,1,none⟩ (.slice C t c3)).setCell ⟨gR,0,none⟩ (.slice s0.a s0.n s0.c)).setCell ⟨gR,1,none⟩ (.slice C t c3)):=
     Ext.setCell' (Ext.setCell' (Ext.setCell' HE4.out (p:=⟨gO,1,none⟩) HG9.out.2.2.1 (.slice C t c3)) (p:=⟨gR,0,none⟩) HG9.out.2.1 (.slice s0.a s0.n s0.c)) (p:=⟨gR,1,none⟩) HG9.out.2.1 (.slice C t c3)
    have hW9:=zw HW4.out kA (fun q hq hs=>hs.elim (fun h=>zD HW4.out HO4.out (by decide) (by rw[←h];exact hq)) (fun h=>zD HW4.out HR4.out (by decide) (by rw[←h];exact hq)));have hS9:∀ z∈zs,FragS wB (((w4.setCell ⟨gO,1,none⟩ (.slice C t c3)).setCell ⟨gR,0,none⟩ (.slice s0.a s0.n s0.c)).setCell ⟨gR,1,none⟩ (.slice C t c3)) z.1 z.2:=fun z hz=>by
     have h9:=HS4.out z hz;exact⟨h9.1,zw h9.2.1 kA (fun q hq hs=>hs.elim (fun h=>zD h9.2.1 HO4.out (by decide) (by rw[←h];exact hq)) (fun h=>zD h9.2.1 HR4.out (by decide) (by rw[←h];exact hq))),h9.2.2⟩
    refine bodyPost_ret (results_cell_row rfl _ _ gR 29 _ (0,0) _ rfl HF.out Tryz.underlying29 rfl (show(Tryz.prog.info? 29).map (·.size)=some 2 by kernel_rfl)) rfl ?_;refine⟨_,rfl,⟨s0,⟨C,t,c3⟩,rfl,⟨?_,?_⟩,?_⟩,hE9⟩
    ·show FragsAt _ _ ((fa.take 6).map zaf)
     rw[←hzm6.out];exact zcG (HBs.out.trans hE9) hW9 hS9
    ·show Sl _ 67 _ ((ia.take 12).map KnownI.list)
     rw[←htk.out.2,List.map_take];exact hSk.out.ext (HBs.out.trans hE9)
    ·intro q t9 cs9 W' ht1 ht2 hq hb9 hk9
     have hX9:Ext wB W':=hk9.toExt (HBs.out.trans hE9) (fun g hg=>by rw[hg];exact hq);refine⟨?_,?_⟩
     ·show FragsAt _ _ ((fa.take 6).map zaf)
      rw[←hzm6.out];exact zcG hX9 (zw hW9 hk9 (fun g hg hs=>zD hW9 hb9 ht1 (by rw[←hs];exact hg))) (fun z hz=>(hS9 z hz).keepBlk hb9 ht2 hk9)
     ·show Sl _ 67 _ ((ia.take 12).map KnownI.list)
      rw[←htk.out.2,List.map_take];exact hSk.out.ext hX9
  ·have d1:decide ((k:Int)<cs.length)=false:=decide_eq_false (by omega)
   have d1':decide (k<cs.length)=false:=decide_eq_false (by omega);by_cases hk2:k<6
   ·have hkc:k=cs.length:=by omega
    have hzm6:Hid (zs.map (·.2)=(fa.take 6).map zaf):=by
     first
      | exact hzm.out
      | (show _=_;rw[hzm.out,List.take_of_length_le (by have:=HCL.out;omega),List.take_of_length_le (by have:=HCL.out;omega)])
    have z1:=hP.out.cell (i:=1) rfl;obtain⟨s0,rfl⟩:=zcO hW.out;obtain⟨t,ht⟩:∃ t:Nat,min (ia.length:Int) 12=(t:Int):=⟨min ia.length 12,by omega⟩
    have HLow:=fun W=>hid (zln ia.length 12 W);rw[ht] at HLow;have htk:Hid (t≤ia.length∧ia.take t=ia.take 12):=by
     have h9:t=min ia.length 12:=by omega
     refine⟨by omega,?_⟩;rw[h9,←List.take_take];exact List.take_of_length_le (by rw[List.length_take];omega)
    have hSk:=hid (zfL HAk.out htk.out.1);have t1:t≤c3:=by have:=htk.out;omega
    clear ht hca H3 HAk;go_wp2_with fail
    refine((HLow _).out).mono ?_;rintro en w4 ⟨rfl,x4⟩;have HP4:=hid (hP.out.ext x4);have HR4:=hid (hR.out.ext x4);have HO4:=hid (hO.out.ext x4);have HE4:=hid (hE.out.trans x4);have HW4:=hid (zz hW.out x4);have HS4:Hid (∀ z∈zs,FragS wB w4 z.1 z.2):=fun z hz=>(hS.out z hz).ext x4;clear z0 z1 y1 x4 hP hR hO hE hW hS HLow;have z1:=HP4.out.cell (i:=1) rfl;have y1:=HP4.out.lt;have o0:=HO4.out.cell (i:=0) rfl;have o1:=HO4.out.cell (i:=1) rfl;have o2:=HO4.out.frozen 1;have ol:=HO4.out.lt;have r0:=HR4.out.cell (i:=0) rfl;have r1:=HR4.out.cell (i:=1) rfl;have r2:=HR4.out.frozen 0;have r3:=HR4.out.frozen 1;have rl:=HR4.out.lt
    have hne:¬ gO=gR:=fun h=>HG9.out.2.2.2.2 h.symm;have hne':¬ gR=gO:=fun h=>HG9.out.2.2.2.2 h;unfold SlV.val at o0;go_wp2_with fail
    have kA:Keep (fun q=>q=gO∨q=gR) w4 (((w4.setCell ⟨gO,1,none⟩ (.slice C t c3)).setCell ⟨gR,0,none⟩ (.slice s0.a s0.n s0.c)).setCell ⟨gR,1,none⟩ (.slice C t c3)):=
     Keep.setCell (S:=fun q=>q=gO∨q=gR) (Keep.setCell (S:=fun q=>q=gO∨q=gR) (Keep.setCell (S:=fun q=>q=gO∨q=gR) (Keep.refl _ w4) (p:=⟨gO,1,none⟩) (.inl (.inl rfl)) (.slice C t c3)) (p:=⟨gR,0,none⟩) (.inl (.inr rfl)) (.slice s0.a s0.n s0.c)) (p:=⟨gR,1,none⟩) (.inl (.inr rfl)) (.slice C t c3)
    have kO:Keep (fun q=>q=gO) w4 (w4.setCell ⟨gO,1,none⟩ (.slice C t c3)):=Keep.setCell (S:=fun q=>q=gO) (Keep.refl _ w4) (p:=⟨gO,1,none⟩) (.inl rfl) (.slice C t c3);have HF:Hid (Blk _ gR 29 #[.slice s0.a s0.n s0.c,.slice C t c3]):=((Blk.keep HR4.out kO hne').set 0 (.slice s0.a s0.n s0.c)).set 1 (.slice C t c3);have hE9:Ext w (((w4.setCell ⟨gO,1,none⟩ (.slice C t c3)).setCell ⟨gR,0,none⟩ (.slice s0.a s0.n s0.c)).setCell ⟨gR,1,none⟩ (.slice C t c3)):=
     Ext.setCell' (Ext.setCell' (Ext.setCell' HE4.out (p:=⟨gO,1,none⟩) HG9.out.2.2.1 (.slice C t c3)) (p:=⟨gR,0,none⟩) HG9.out.2.1 (.slice s0.a s0.n s0.c)) (p:=⟨gR,1,none⟩) HG9.out.2.1 (.slice C t c3)
    have hW9:=zw HW4.out kA (fun q hq hs=>hs.elim (fun h=>zD HW4.out HO4.out (by decide) (by rw[←h];exact hq)) (fun h=>zD HW4.out HR4.out (by decide) (by rw[←h];exact hq)));have hS9:∀ z∈zs,FragS wB (((w4.setCell ⟨gO,1,none⟩ (.slice C t c3)).setCell ⟨gR,0,none⟩ (.slice s0.a s0.n s0.c)).setCell ⟨gR,1,none⟩ (.slice C t c3)) z.1 z.2:=fun z hz=>by
     have h9:=HS4.out z hz;exact⟨h9.1,zw h9.2.1 kA (fun q hq hs=>hs.elim (fun h=>zD h9.2.1 HO4.out (by decide) (by rw[←h];exact hq)) (fun h=>zD h9.2.1 HR4.out (by decide) (by rw[←h];exact hq))),h9.2.2⟩
    refine bodyPost_ret (results_cell_row rfl _ _ gR 29 _ (0,0) _ rfl HF.out Tryz.underlying29 rfl (show(Tryz.prog.info? 29).map (·.size)=some 2 by kernel_rfl)) rfl ?_;refine⟨_,rfl,⟨s0,⟨C,t,c3⟩,rfl,⟨?_,?_⟩,?_⟩,hE9⟩
    ·show FragsAt _ _ ((fa.take 6).map zaf)
     rw[←hzm6.out];exact zcG (HBs.out.trans hE9) hW9 hS9
    ·show Sl _ 67 _ ((ia.take 12).map KnownI.list)
     rw[←htk.out.2,List.map_take];exact hSk.out.ext (HBs.out.trans hE9)
    ·intro q t9 cs9 W' ht1 ht2 hq hb9 hk9
     have hX9:Ext wB W':=hk9.toExt (HBs.out.trans hE9) (fun g hg=>by rw[hg];exact hq);refine⟨?_,?_⟩
     ·show FragsAt _ _ ((fa.take 6).map zaf)
      rw[←hzm6.out];exact zcG hX9 (zw hW9 hk9 (fun g hg hs=>zD hW9 hb9 ht1 (by rw[←hs];exact hg))) (fun z hz=>(hS9 z hz).keepBlk hb9 ht2 hk9)
     ·show Sl _ 67 _ ((ia.take 12).map KnownI.list)
      rw[←htk.out.2,List.map_take];exact hSk.out.ext hX9
   ·obtain rfl:k=6:=by omega
    have hzm6:Hid (zs.map (·.2)=(fa.take 6).map zaf):=by
     first
      | exact hzm.out
      | (show _=_;rw[hzm.out,List.take_of_length_le (by have:=HCL.out;omega),List.take_of_length_le (by have:=HCL.out;omega)])
    have z1:=hP.out.cell (i:=1) rfl;obtain⟨s0,rfl⟩:=zcO hW.out;obtain⟨t,ht⟩:∃ t:Nat,min (ia.length:Int) 12=(t:Int):=⟨min ia.length 12,by omega⟩
    have HLow:=fun W=>hid (zln ia.length 12 W);rw[ht] at HLow;have htk:Hid (t≤ia.length∧ia.take t=ia.take 12):=by
     have h9:t=min ia.length 12:=by omega
     refine⟨by omega,?_⟩;rw[h9,←List.take_take];exact List.take_of_length_le (by rw[List.length_take];omega)
    have hSk:=hid (zfL HAk.out htk.out.1);have t1:t≤c3:=by have:=htk.out;omega
    clear ht hca H3 HAk;go_wp2_with fail
    refine((HLow _).out).mono ?_;rintro en w4 ⟨rfl,x4⟩;have HP4:=hid (hP.out.ext x4);have HR4:=hid (hR.out.ext x4);have HO4:=hid (hO.out.ext x4);have HE4:=hid (hE.out.trans x4);have HW4:=hid (zz hW.out x4);have HS4:Hid (∀ z∈zs,FragS wB w4 z.1 z.2):=fun z hz=>(hS.out z hz).ext x4;clear z0 z1 y1 x4 hP hR hO hE hW hS HLow;have z1:=HP4.out.cell (i:=1) rfl;have y1:=HP4.out.lt;have o0:=HO4.out.cell (i:=0) rfl;have o1:=HO4.out.cell (i:=1) rfl;have o2:=HO4.out.frozen 1;have ol:=HO4.out.lt;have r0:=HR4.out.cell (i:=0) rfl;have r1:=HR4.out.cell (i:=1) rfl;have r2:=HR4.out.frozen 0;have r3:=HR4.out.frozen 1;have rl:=HR4.out.lt
    have hne:¬ gO=gR:=fun h=>HG9.out.2.2.2.2 h.symm;have hne':¬ gR=gO:=fun h=>HG9.out.2.2.2.2 h;unfold SlV.val at o0;go_wp2_with fail
    have kA:Keep (fun q=>q=gO∨q=gR) w4 (((w4.setCell ⟨gO,1,none⟩ (.slice C t c3)).setCell ⟨gR,0,none⟩ (.slice s0.a s0.n s0.c)).setCell ⟨gR,1,none⟩ (.slice C t c3)):=
     Keep.setCell (S:=fun q=>q=gO∨q=gR) (Keep.setCell (S:=fun q=>q=gO∨q=gR) (Keep.setCell (S:=fun q=>q=gO∨q=gR) (Keep.refl _ w4) (p:=⟨gO,1,none⟩) (.inl (.inl rfl)) (.slice C t c3)) (p:=⟨gR,0,none⟩) (.inl (.inr rfl)) (.slice s0.a s0.n s0.c)) (p:=⟨gR,1,none⟩) (.inl (.inr rfl)) (.slice C t c3)
    have kO:Keep (fun q=>q=gO) w4 (w4.setCell ⟨gO,1,none⟩ (.slice C t c3)):=Keep.setCell (S:=fun q=>q=gO) (Keep.refl _ w4) (p:=⟨gO,1,none⟩) (.inl rfl) (.slice C t c3);have HF:Hid (Blk _ gR 29 #[.slice s0.a s0.n s0.c,.slice C t c3]):=((Blk.keep HR4.out kO hne').set 0 (.slice s0.a s0.n s0.c)).set 1 (.slice C t c3);have hE9:Ext w (((w4.setCell ⟨gO,1,none⟩ (.slice C t c3)).setCell ⟨gR,0,none⟩ (.slice s0.a s0.n s0.c)).setCell ⟨gR,1,none⟩ (.slice C t c3)):=
     Ext.setCell' (Ext.setCell' (Ext.setCell' HE4.out (p:=⟨gO,1,none⟩) HG9.out.2.2.1 (.slice C t c3)) (p:=⟨gR,0,none⟩) HG9.out.2.1 (.slice s0.a s0.n s0.c)) (p:=⟨gR,1,none⟩) HG9.out.2.1 (.slice C t c3)
    have hW9:=zw HW4.out kA (fun q hq hs=>hs.elim (fun h=>zD HW4.out HO4.out (by decide) (by rw[←h];exact hq)) (fun h=>zD HW4.out HR4.out (by decide) (by rw[←h];exact hq)));have hS9:∀ z∈zs,FragS wB (((w4.setCell ⟨gO,1,none⟩ (.slice C t c3)).setCell ⟨gR,0,none⟩ (.slice s0.a s0.n s0.c)).setCell ⟨gR,1,none⟩ (.slice C t c3)) z.1 z.2:=fun z hz=>by
     have h9:=HS4.out z hz;exact⟨h9.1,zw h9.2.1 kA (fun q hq hs=>hs.elim (fun h=>zD h9.2.1 HO4.out (by decide) (by rw[←h];exact hq)) (fun h=>zD h9.2.1 HR4.out (by decide) (by rw[←h];exact hq))),h9.2.2⟩
    refine bodyPost_ret (results_cell_row rfl _ _ gR 29 _ (0,0) _ rfl HF.out Tryz.underlying29 rfl (show(Tryz.prog.info? 29).map (·.size)=some 2 by kernel_rfl)) rfl ?_;refine⟨_,rfl,⟨s0,⟨C,t,c3⟩,rfl,⟨?_,?_⟩,?_⟩,hE9⟩
    ·show FragsAt _ _ ((fa.take 6).map zaf)
     rw[←hzm6.out];exact zcG (HBs.out.trans hE9) hW9 hS9
    ·show Sl _ 67 _ ((ia.take 12).map KnownI.list)
     rw[←htk.out.2,List.map_take];exact hSk.out.ext (HBs.out.trans hE9)
    ·intro q t9 cs9 W' ht1 ht2 hq hb9 hk9
     have hX9:Ext wB W':=hk9.toExt (HBs.out.trans hE9) (fun g hg=>by rw[hg];exact hq);refine⟨?_,?_⟩
     ·show FragsAt _ _ ((fa.take 6).map zaf)
      rw[←hzm6.out];exact zcG hX9 (zw hW9 hk9 (fun g hg hs=>zD hW9 hb9 ht1 (by rw[←hs];exact hg))) (fun z hz=>(hS9 z hz).keepBlk hb9 ht2 hk9)
     ·show Sl _ 67 _ ((ia.take 12).map KnownI.list)
      rw[←htk.out.2,List.map_take];exact hSk.out.ext hX9
end
section
open Go.RowKit
theorem ziJ {f:List ClauseI}:∀ c∈saneF f,ClauseOk c:=fun c hc=>by
 unfold saneF at hc;exact zg7 (List.mem_filter.1 hc).2
theorem zlN (x:FragI):(zaf x).f.length≤24:=by
 unfold zaf saneF;refine Nat.le_trans (List.length_filter_le _ _) ?_;cases h:zbT x.f with
 | true=>rw[if_pos rfl];exact(zck.1 h).2
 | false=>rw[if_neg Bool.false_ne_true];exact Nat.zero_le _
theorem zeD {y:Ver} (h:zaM y):(verB y).size≤18:=zaP h.1 h.2
theorem zk8 {v:List Int} (h:zaQ v):(zK (zi verB (endsL v))).size≤1800:=by
 have h1:=zaK verB (endsL v) 18 65 (by decide) (zaS v) (by decide) (fun y hy=>za5 (zaV h y hy));have h2:(zi verB (endsL v)).size≤1764:=by rw[zap];omega
 have h3:=zZ (zi verB (endsL v)) (by omega);omega
theorem zgc {k:KnowI} (h:KnowIn k):KnowG (saneK k):=by
 refine⟨⟨fun x hx=>?_,fun x hx c hc=>?_,fun x hx=>?_⟩,fun x hx=>?_⟩
 ·obtain⟨y,hy,rfl⟩:=List.mem_map.1 hx
  have hi:=h.fs y (List.mem_of_mem_take hy);exact⟨hi.v,fun z hz=>hi.n z (List.mem_of_mem_take hz),by show(y.n.take 12).length≤_;rw[List.length_take];omega⟩
 ·obtain⟨y,hy,rfl⟩:=List.mem_map.1 hx
  have:=(ziJ c hc).pre;omega
 ·have hi:=h.ks x (List.mem_of_mem_take hx)
  exact⟨hi.v,hi.i⟩
 ·obtain⟨y,hy,rfl⟩:=List.mem_map.1 hx
  exact(h.fs y (List.mem_of_mem_take hy)).len
theorem zj5 {k:KnowI} (h:KnowIn k):(zad (saneK k)).size≤50000:=by
 have hg:=zgc h;have hf:∀ x∈(saneK k).fs,(zau x).size≤4100:=fun x hx=>by
  have ho:=hg.ok.fs x hx;obtain⟨y,hy,rfl⟩:=List.mem_map.1 hx;have h1:=zaK clB (zaf y).f 70 24 (by decide) (zlN y) (by decide) (fun c hc=>(zeX (ziJ c hc)).2);have h2:(zi clB (zaf y).f).size≤1905:=by rw[zap];omega
  have h3:=zZ (zi clB (zaf y).f) (by omega);have h4:=zk8 ho.v;have h5:=zaK verB (zaf y).n 18 12 (by decide) (by show(y.n.take 12).length≤_;rw[List.length_take];omega) (by decide) (fun c hc=>zeD (ho.n c hc));have h6:(zi verB (zaf y).n).size≤333:=by rw[zap];omega
  have h7:=zZ (zi verB (zaf y).n) (by omega);unfold zau;rw[ByteArray.size_append,ByteArray.size_append];omega
 have hk:∀ x∈(saneK k).ks,(zY x).size≤1900:=fun x hx=>by
  have ho:=hg.ok.ks x hx;have h4:=zk8 ho.v;have h5:=zeD ho.i;unfold zY;rw[ByteArray.size_append];omega
 have a1:=zaK zau (saneK k).fs 4100 6 (by decide) (by show((k.fs.take 6).map zaf).length≤_;rw[List.length_map,List.length_take];omega) (by decide) hf;have a2:(zi zau (saneK k).fs).size≤25000:=by rw[zap];omega
 have a3:=zZ (zi zau (saneK k).fs) (by omega);have b1:=zaK zY (saneK k).ks 1900 12 (by decide) (by show(k.ks.take 12).length≤_;rw[List.length_take];omega) (by decide) hk;have b2:(zi zY (saneK k).ks).size≤23000:=by rw[zap];omega
 have b3:=zZ (zi zY (saneK k).ks) (by omega);unfold zad;rw[ByteArray.size_append];omega
end
section
open Go.RowKit
def zcC (el:List EntI) (nh nn:Nat) (f:List ClauseI):Bool:=el.all zdP&&(decide (el.length≤40)&&(decide (nh≤40)&&(decide (nn≤40)&&zbT f)))
attribute [-simp] Tryz.isAgg61 Tryz.sizeOf61 Tryz.isAgg33 Tryz.isAgg36 Tryz.sizeOf36
theorem zmi (w:World) (a:MsgC) (cl:List ClauseI) (nh nn:Nat) (el:List EntI) (hf:Sl w 3 a.f.val (cl.map ClauseI.cells)) (hh:a.held.n=nh) (hn:a.not.n=nn) (he:Sl w 21 a.ents.val (el.map EntI.cells)) (hnh:nh≤maxLen) (hnn:nn≤maxLen):Calls Tryz.prog 13 #[.agg a.arr] w (Ret (.bool (zcC el nh nn cl)) w):=by
 have h4:=zW a 8 (by omega);have h11:=zW a 11 (by omega);have h14:=zW a 14 (by omega);have h145:=zah a 0;generalize a.arr=ar at *;obtain⟨ak,as1,as2,as3,ar1,ar2,ar3,aup,⟨af1,af2,af3⟩,⟨ax1,ax2,ax3⟩,⟨ay1,ay2,ay3⟩,⟨ah1,ah2,ah3⟩,aseq,alast,⟨ae1,ae2,ae3⟩,aV,aA,⟨an1,an2,an3⟩,acode,hV,hA⟩:=a;simp only[SlV.val] at hf he;dsimp only at hh hn;subst hh hn;obtain⟨_,_,e1,f1,f2,_⟩:=zC hf;injection e1 with e1 e1n e1c
 subst e1 e1n e1c;obtain⟨_,_,e1,g1,g2,g3⟩:=zC he;injection e1 with e1 e1n e1c
 subst e1 e1n e1c;have a8:ar[8]? = some (.slice af1 cl.length af3):=h4;have a11:ar[11]? = some (.slice ah1 ah2 ah3):=h11;have a14:ar[14]? = some (.slice ae1 el.length ae3):=h14;have a145:ar[145]? = some (.slice an1 an2 an3):=h145;have HLt:=fun W u=>hid (zmj W u);unfold UpdI.val at HLt;have HLf:=fun W (hW:Ext w W)=>hid (zi9 W _ cl (hf.ext hW));have H3:=hid g3;have HB:=hid (Blk.new w 36 ar);have HX:=hid (Ext.alloc w (.cells ar 36));have HFin:Hid (∀ b,el.all zdP=b→zcC el ah2 an2 cl=(b&&(decide (el.length≤40)&&(decide (ah2≤40)&&(decide (an2≤40)&&zbT cl))))):=fun b h=>by unfold zcC;rw[h]
 generalize zcC el ah2 an2 cl=res at HFin⊢;generalize zbT cl=lf at HLf HFin;unfold maxLen at f2 g2 hnh hnn;have HA8:=hid a8;have HA11:=hid a11;have HA14:=hid a14;have HA145:=hid a145;clear h4 h11 h14 h145 hf he g3 hV hA a8 a11 a145;go_enter Tryz.func13,Tryz.ntmps13;go_wp2_with fail
 generalize w.alloc (.cells ar 36)=w0 at HB HX⊢;clear a14;go_loopw [3] (fun s3 wr=>∃ k:Nat,k≤el.length∧s3=.int .i64 k∧Hid (Ext w0 wr)∧Hid ((el.take k).all zdP=true)) (fun s3 _=>el.length-(intOf s3).toNat)
 case atStart=>exact⟨0,by omega,rfl,Ext.refl _,rfl⟩
 case round=>
  obtain⟨k,hk,rfl,hE,hA⟩:=hrel;have HB1:=hid (HB.out.ext hE.out);have HX1:=hid (HX.out.trans hE.out);have q14:=HB1.out.cell HA14.out;have q1:=HB1.out.lt;by_cases hlt:k<el.length
  ·have d1:decide ((k:Int)<el.length)=true:=decide_eq_true (by omega)
   have d1':decide (k<el.length)=true:=decide_eq_true hlt;obtain⟨b,o,rfl,lb,hcell⟩:=H3.out (by omega);have HR:=hid (fun(j:Nat) u (hu:el[k].arr[j]? = some u)=>HX1.out.cell (hcell k hlt j u (by rw[←zbR,Array.getElem?_toList];exact hu)));have lbr:=Nat.lt_of_lt_of_le lb HX1.out.size;have HT:=hid (fun h=>zmZ (p:=zdP) hlt hA.out h);have HF:=hid (fun h=>zoz (p:=zdP) hlt h);clear hcell H3 hA lb;generalize el[k]=e at HR HT HF;have HC:=fun W=>HLt W e.u;have c1:=HR.out 1 (.int .i64 e.u.item.by_) rfl;have c2:=HR.out 2 (.int .i64 e.u.item.n) rfl;have c3:=HR.out 3 (.int .i64 e.u.st.v.by_) rfl
   have c4:=HR.out 4 (.int .i64 e.u.st.v.n) rfl;have c5:=HR.out 5 (.int .i64 e.u.st.time) rfl;have c6:=HR.out 6 (.string e.u.p) rfl;have c7:=HR.out 7 (.string e.u.d) rfl;have c8:=HR.out 8 (.bool e.u.dead) rfl;unfold zdP at HT HF;generalize zgw e.u=lu at HC HT HF;go_wp2_with fail
   simp only[Tryz.sizeOf61,Result.andThen];rw[Oper.upon_value];go_wp2_with fail
   refine((HC _).out).mono ?_;rintro en w3 ⟨rfl,x3⟩;have HE3:=hid (hE.out.trans x3);have c14:=x3.cell (HR.out 14 (.string e.m.p) rfl);have lb3:=Nat.lt_of_lt_of_le lbr x3.size;have r14:=(HB1.out.ext x3).cell HA14.out;have r1:=(HB1.out.ext x3).lt;clear x3 c1 c2 c3 c4 c5 c6 c7 c8 HR HC HLt q14 q1;cases lu with
   | false=>
    have hF:=hid (HFin.out false (HF.out rfl));rw[Bool.false_and] at hF;have HX3:=hid (HX.out.trans HE3.out);clear HT HF c14 HFin r14 r1;go_wp2_with fail
    go_ret;exact⟨by rw[hF.out];rfl,HX3.out⟩
   | true=>
    by_cases hb:e.m.p.size≤200
    ·have d2:decide (200<e.m.p.size)=false:=decide_eq_false (by omega)
     have d2':decide ((200:Int)<e.m.p.size)=false:=decide_eq_false (by omega);have hT:=hid (HT.out (by simp[hb]));clear hb HT HF;go_wp2_with fail
     simp only[Tryz.sizeOf61,Result.andThen];rw[Oper.upon_value];go_wp2_with fail
     go_roundw
     case rel=>exact⟨k+1,by omega,by go_num,HE3,hT⟩
     case measure=>simp[intOf];omega
    ·have d2:decide (200<e.m.p.size)=true:=decide_eq_true (by omega)
     have d2':decide ((200:Int)<e.m.p.size)=true:=decide_eq_true (by omega);have hF:=hid (HFin.out false (HF.out (by simp[hb])));rw[Bool.false_and] at hF;have HX3:=hid (HX.out.trans HE3.out);clear hb HT HF HFin;go_wp2_with fail
     simp only[Tryz.sizeOf61,Result.andThen];rw[Oper.upon_value];go_wp2_with fail
     go_ret;exact⟨by rw[hF.out];rfl,HX3.out⟩
  ·obtain rfl:k=el.length:=by omega
   rw[List.take_length] at hA;have hF:=hid (HFin.out true hA.out);rw[Bool.true_and] at hF;have e1:decide ((el.length:Int)<el.length)=false:=decide_eq_false (by omega);have e1':decide (el.length<el.length)=false:=decide_eq_false (by omega);have q8:=HB1.out.cell HA8.out;have q11:=HB1.out.cell HA11.out;have q145:=HB1.out.cell HA145.out;clear hlt hk H3 HLt HFin hA HB HX hE;by_cases h40:el.length≤40
   ·have p1:decide ((el.length:Int)≤40)=true:=decide_eq_true (by omega)
    have p1':decide (el.length≤40)=true:=decide_eq_true h40;rw[p1',Bool.true_and] at hF;clear h40;by_cases hh40:ah2≤40
    ·have p2:decide ((ah2:Int)≤40)=true:=decide_eq_true (by omega)
     have p2':decide (ah2≤40)=true:=decide_eq_true hh40;rw[p2',Bool.true_and] at hF;clear hh40;by_cases hn40:an2≤40
     ·have p3:decide ((an2:Int)≤40)=true:=decide_eq_true (by omega)
      have p3':decide (an2≤40)=true:=decide_eq_true hn40;rw[p3',Bool.true_and] at hF;clear hn40;go_wp2_with fail
      refine((HLf _ HX1.out).out).mono ?_;rintro en w3 ⟨rfl,x3⟩;have HX3:=hid (HX1.out.trans x3);clear x3 HLf HX1 HB1 q1 q8 q11 q14 q145;go_wp2_with fail
      go_ret;exact⟨by rw[hF.out];rfl,HX3.out⟩
     ·have p3:decide ((an2:Int)≤40)=false:=decide_eq_false (by omega)
      have p3':decide (an2≤40)=false:=decide_eq_false hn40;rw[p3',Bool.false_and] at hF;clear hn40;go_wp2_with fail
      go_ret;exact⟨by rw[hF.out];rfl,HX1.out⟩
    ·have p2:decide ((ah2:Int)≤40)=false:=decide_eq_false (by omega)
     have p2':decide (ah2≤40)=false:=decide_eq_false hh40;rw[p2',Bool.false_and] at hF;clear hh40;go_wp2_with fail
     go_ret;exact⟨by rw[hF.out];rfl,HX1.out⟩
   ·have p1:decide ((el.length:Int)≤40)=false:=decide_eq_false (by omega)
    have p1':decide (el.length≤40)=false:=decide_eq_false h40;rw[p1',Bool.false_and] at hF;clear h40;go_wp2_with fail
    go_ret;exact⟨by rw[hF.out];rfl,HX1.out⟩
end
section
open Go.RowKit Go.ChangeShapes Go.WideShapes Go.ChangeAt Go.Deep
theorem zbw {α:Type} (cs:List α) (o k:Nat):cs.drop o=(cs.drop o).take k++cs.drop (o+k):=by
 rw[←List.drop_drop,List.take_append_drop]
theorem zjc (ok:Int→Prop):∀ cs:List Value,(∀ i,i<cs.length → ∃ z,cs[i]? = some (.int .i64 z)∧ok z) → ∃ v:List Int,cs=v.map (Value.int .i64)∧v.length=cs.length ∧ ∀ z∈v,ok z
 | [],_=>⟨[],rfl,rfl,fun z hz=>by cases hz⟩
 | c::cs,h=>by
  obtain⟨z,h1,h2⟩:=h 0 (by simp);obtain⟨v,h3,h4,h5⟩:=zjc ok cs (fun i hi=>by
   have:=h (i+1) (by simp;omega);simpa using this)
  simp at h1;refine⟨z::v,by rw[h1,h3];rfl,by simp[h4],fun y hy=>?_⟩;rcases List.mem_cons.1 hy with rfl | hy
  ·exact h2
  ·exact h5 y hy
theorem zfm:Tryz.prog.cellsOf 33=65:=by kernel_rfl
theorem zfo:Tryz.prog.cellsOf 24=3:=by kernel_rfl
theorem zkY:Tryz.prog.cellsOf 29=2:=by kernel_rfl
theorem zmP:Tryz.prog.cellsOf 36=147:=by kernel_rfl
theorem zjJ:Tryz.prog.cellsOf 97=2:=by kernel_rfl
theorem zjM:Tryz.prog.cellsOf 99=3:=by kernel_rfl
theorem zgo (w:World):zbj Tryz.prog w 33 intsV (fun v=>v.length=65 ∧ ∀ z∈v,in64 z):=by
 intro H enc fuel cs x h;obtain⟨xs,n,_,_,hlen,hxl,hf⟩:=DataW.trod_array Tryz.underlying33 h;rw[zfm] at hlen;obtain⟨v,h1,h2,h3⟩:=zjc okI cs (fun i hi=>by
  have hi65:i<65:=by omega
  have hx:=hf i hi65;rw[zaO,Nat.mul_one] at hx;have hlt:i<xs.length:=by omega
  rw[List.getElem?_eq_getElem hlt] at hx;obtain⟨z,hz,oz⟩:=zaC w H enc _ _ _ hx;refine⟨z,?_,oz⟩;have h0:((cs.drop i).take 1)[0]? = some (.int .i64 z):=by rw[hz];rfl
  rw[List.getElem?_take,if_pos (by omega),List.getElem?_drop,Nat.add_zero] at h0;exact h0)
 exact⟨v,h1,by omega,fun z hz=>(h3 z hz).bounds⟩
theorem zha (w:World):zbj Tryz.prog w 24 (fun p:Int×Int×Int=>[.int .i64 p.1,.int .i64 p.2.1,.int .i64 p.2.2]) (fun p=>in64 p.1∧in64 p.2.1∧in64 p.2.2):=by
 intro H enc fuel cs x h;obtain⟨xs,n,_,_,hlen,hxs,hf⟩:=DataW.trod_struct Tryz.underlying24 h;rw[zfo] at hlen
 match cs,hlen with
 | [c0,c1,c2],_=>
  obtain⟨a,ha,oa⟩:=zL hxs hf (i:=0) rfl zaO (zaC w);obtain⟨b,hb,ob⟩:=zL hxs hf (i:=1) rfl zaO (zaC w);obtain⟨c,hc,oc⟩:=zL hxs hf (i:=2) rfl zaO (zaC w);simp at ha hb hc;subst ha hb hc;exact⟨⟨a,b,c⟩,rfl,oa.bounds,ob.bounds,oc.bounds⟩
theorem zl6 (w:World):zbj Tryz.prog w 97 Ver.cells (fun v=>okI v.by_∧okI v.n):=by
 intro H enc fuel cs x h;obtain⟨xs,n,_,_,hlen,hxs,hf⟩:=DataW.trod_struct Tryz.underlying97 h;rw[zjJ] at hlen
 match cs,hlen with
 | [c0,c1],_=>
  obtain⟨a,ha,oa⟩:=zL hxs hf (i:=0) rfl zaO (zaC w);obtain⟨b,hb,ob⟩:=zL hxs hf (i:=1) rfl zaO (zaC w);simp at ha hb;subst ha hb;exact⟨⟨a,b⟩,rfl,oa,ob⟩
theorem zma (w:World):zbj Tryz.prog w 99 ClauseI.cells (fun c=>in64 c.lo∧in64 c.hi):=by
 intro H enc fuel cs x h;obtain⟨xs,n,_,_,hlen,hxs,hf⟩:=DataW.trod_struct Tryz.underlying99 h;rw[zjM] at hlen
 match cs,hlen with
 | [c0,c1,c2],_=>
  obtain⟨a,ha,oa⟩:=zL hxs hf (i:=0) rfl zeY (zcc Tryz.underlying9);obtain⟨b,hb,ob⟩:=zL hxs hf (i:=1) rfl zjJ (zl6 w);simp[Ver.cells] at ha hb;obtain⟨hb1,hb2⟩:=hb;subst ha hb1 hb2;exact⟨⟨a,b.by_,b.n⟩,rfl,ob.1.bounds,ob.2.bounds⟩
end
end Go.Proofs.YtofjpdgojoppbaaGreatDoor
