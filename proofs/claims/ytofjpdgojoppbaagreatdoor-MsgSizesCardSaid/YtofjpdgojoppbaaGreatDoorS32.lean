/-
  Of the claim's proof: MgL, MgM, MgN, MgO, MgP, RdA.
-/
import Derived.Test.YtofjpdgojoppbaaGreatDoorS05
import Derived.Test.YtofjpdgojoppbaaGreatDoorS08
import Derived.Test.YtofjpdgojoppbaaGreatDoorS26
import Derived.Test.YtofjpdgojoppbaaGreatDoorS27
import Derived.Test.YtofjpdgojoppbaaGreatDoorS28
import Derived.Test.YtofjpdgojoppbaaGreatDoorS29
import Derived.Test.YtofjpdgojoppbaaGreatDoorS31
set_option maxRecDepth 100000
set_option maxHeartbeats 16000000
set_option linter.unusedVariables false
set_option linter.unusedSimpArgs false
namespace Go.Proofs.YtofjpdgojoppbaaGreatDoor
section
open Go.RowKit
def zbY (a:MsgI):Bool:=sidB a.r1 a.r2 a.r3&&(decide (0≤a.seq)&&(decide (a.seq≤1048576)&&decide (a.ents.length≤256)))
def zcl (a:MsgI):List FldI:=if zbY a then zav [nameF a.r1 a.r2 a.r3++[fN a.seq,fN (zao a.last)],zco a.ents,zR (putB (decide (a.V=cleanL a.V)) (zg verB (endsL a.V))) (okZ (decide (a.V=cleanL a.V))),zR (putB (decide (a.A=cleanL a.A)) (zg verB (endsL a.A))) (okZ (decide (a.A=cleanL a.A))),zR (putX (itemsB a.not) (zg verB a.not)) (errX (itemsB a.not) (zg verB a.not))] else []
theorem zkM (l:List EntI) (h:l.length≤1000):(zco l).length≤6000:=by
 unfold zco
 split
 ·have:=zcQ entF zeK l
  rw[List.length_cons];omega
 ·simp
theorem ziG {w:World} {B sz n q:Nat} {e t:TypeId} {v:Value} {xs:List Value} {cs:Array Value} (h:w.ownsRow B e sz v n xs) (hb:Blk w q t cs) (hne:e≠t):v.ownBlock≠some q:=fun he=>by
 rcases h.2 with⟨rfl,_⟩ | ⟨g,cap,cur,rfl,_,hg,_⟩
 ·cases he
 ·have e1:g=q:=by simpa[Value.ownBlock] using he
  subst e1;have h2:w.heap[g]? = some (.cells cs t (0,0)):=hb;rw[h2] at hg;injection hg with hg
  injection hg with _ hg
  exact hne hg.symm
attribute [-simp] Tryz.isAgg36 Tryz.sizeOf36 Tryz.isAgg33
theorem batch_c (w:World) (S:SlM) (a:MsgI) (mx:Int) (hm:w.cell? ⟨0,0,none⟩=some (.int .i64 mx)) (ha:MsgAt w S a) (he:∀ e∈a.ents,EntOk e) (hel:a.ents.length≤1000) (hV:zaA a.V) (hA:zaA a.A) (hn:∀ c∈a.not,zax c) (hnl:a.not.length≤90000):Calls Tryz.prog 145 #[.agg (a.at S).arr] w (RetQ (RowAt FldI.cells 3 (zcl a)) w):=by
 have HAr:=hid (zP (a.at S));have HAE:=hid (zad (a.at S));have HAV:=hid (fun j v (h:(vecV a.V)[j]? = some v)=>zbD (a.at S) j v (by simpa[vecV,intsV,MsgI.at] using h));have HAA:=hid (fun j v (h:(vecV a.A)[j]? = some v)=>zbE (a.at S) j v (by simpa[vecV,intsV,MsgI.at] using h));have hVs:=hid (show(vecV a.V).size=65 by rw[ze];exact a.hV);have hAs:=hid (show(vecV a.A).size=65 by rw[ze];exact a.hA);have HSi:=fun W=>hid (ziR W a.r1 a.r2 a.r3)
 have HNm:∀ W:World,w.heap.size≤W.heap.size→Hid (Calls Tryz.prog 104 #[sidV a.r1 a.r2 a.r3] W (RetQ (fun u W=>OwnF (nameF a.r1 a.r2 a.r3) w.heap.size u W ∧ ∃ q,u=.slice (some ⟨q,0,none⟩) 3 3) W)):=fun W hW=>(zgU W a.r1 a.r2 a.r3).mono fun e w' ⟨v,e1,⟨e2,e3⟩,e4⟩=>⟨v,e1,⟨e2.weak hW,e3⟩,e4⟩
 have HFl:=fun W=>hid (zjF W a.last);have HN:=fun W z=>hid (fN_c W z);have HTx:=fun W s e=>hid (zjD W s e);have HLi:=fun W (hW:Ext w W)=>hid (listE_c W _ a.ents mx (hW.cell hm) he (ha.ents.ext hW) hel);have HPv:=fun W=>hid (zfb W a.V a.hV hV);have HPa:=fun W=>hid (zfb W a.A a.hA hA);have HPi:=fun W (hW:Ext w W)=>hid (zgP W _ a.not (ha.not.ext hW) hnl hn);have hlen:S.ents.n=a.ents.length:=by
  obtain⟨A,c,e,_⟩:=zr ha.ents;unfold SlV.val at e;injection e
 have HW5:=fun W u (h:Rows [nameF a.r1 a.r2 a.r3++[fN a.seq,fN (zao a.last)],zco a.ents,zR (putB (decide (a.V=cleanL a.V)) (zg verB (endsL a.V))) (okZ (decide (a.V=cleanL a.V))),zR (putB (decide (a.A=cleanL a.A)) (zg verB (endsL a.A))) (okZ (decide (a.A=cleanL a.A))),zR (putX (itemsB a.not) (zg verB a.not)) (errX (itemsB a.not) (zg verB a.not))] u W)=>hid (zgH h (by simp) (fun l hl=>by
  simp only[List.mem_cons,List.not_mem_nil,or_false] at hl;rcases hl with rfl | rfl | rfl | rfl | rfl
  ·simp[nameF]
  ·exact zkM _ hel
  ·exact zcU _ _
  ·exact zcU _ _
  ·exact zcU _ _))
 have hq:zcl a=if zbY a then zav [nameF a.r1 a.r2 a.r3++[fN a.seq,fN (zao a.last)],zco a.ents,zR (putB (decide (a.V=cleanL a.V)) (zg verB (endsL a.V))) (okZ (decide (a.V=cleanL a.V))),zR (putB (decide (a.A=cleanL a.A)) (zg verB (endsL a.A))) (okZ (decide (a.A=cleanL a.A))),zR (putX (itemsB a.not) (zg verB a.not)) (errX (itemsB a.not) (zg verB a.not))] else []:=rfl;have hfz:(if a.last then(1:Int) else 0)=zao a.last:=rfl;rw[hfz] at HFl
 have hyes:zbY a=true→zcl a=zav [nameF a.r1 a.r2 a.r3++[fN a.seq,fN (zao a.last)],zco a.ents,zR (putB (decide (a.V=cleanL a.V)) (zg verB (endsL a.V))) (okZ (decide (a.V=cleanL a.V))),zR (putB (decide (a.A=cleanL a.A)) (zg verB (endsL a.A))) (okZ (decide (a.A=cleanL a.A))),zR (putX (itemsB a.not) (zg verB a.not)) (errX (itemsB a.not) (zg verB a.not))]:=fun h=>by rw[hq,if_pos h]
 have hno:zbY a=false→zcl a=[]:=fun h=>by rw[hq,if_neg (by rw[h];decide)]
 have hbo:zbY a=(sidB a.r1 a.r2 a.r3&&(decide (0≤a.seq)&&(decide (a.seq≤1048576)&&decide (a.ents.length≤256)))):=rfl;generalize zcl a=R at hq hyes hno⊢;generalize zbY a=BO at hyes hno hbo hq;generalize putB (decide (a.V=cleanL a.V)) (zg verB (endsL a.V))=sv at HPv HW5 hyes hq;generalize okZ (decide (a.V=cleanL a.V))=ev at HPv HW5 hyes hq;generalize putB (decide (a.A=cleanL a.A)) (zg verB (endsL a.A))=sa at HPa HW5 hyes hq;generalize okZ (decide (a.A=cleanL a.A))=ea at HPa HW5 hyes hq;generalize putX (itemsB a.not) (zg verB a.not)=sn at HPi HW5 hyes hq;generalize errX (itemsB a.not) (zg verB a.not)=en at HPi HW5 hyes hq
 generalize zco a.ents=ef at HLi HW5 hyes hq;generalize zao a.last=fz at HFl HW5 hyes hq;generalize sidB a.r1 a.r2 a.r3=sb at HSi hbo;generalize vecV a.V=VV at HAV hVs HPv;generalize vecV a.A=AA at HAA hAs HPa;generalize (a.at S).arr=ar at HAr HAE HAV HAA⊢;have HBa:=hid (Blk.new w 36 ar);have HX:=hid (Ext.alloc w (.cells ar 36));obtain⟨⟨af1,af2,af3⟩,⟨ax1,ax2,ax3⟩,⟨ay1,ay2,ay3⟩,⟨ah1,ah2,ah3⟩,⟨ae1,ae2,ae3⟩,⟨an1,an2,an3⟩⟩:=S;simp only[SlV.val] at HLi HPi;dsimp only at hlen;subst hlen;unfold sidV at HSi HNm;have a4:ar[4]? = some (.int .i64 a.r1):=HAr.out 4 (by omega);have a5:ar[5]? = some (.int .i64 a.r2):=HAr.out 5 (by omega)
 have a6:ar[6]? = some (.int .i64 a.r3):=HAr.out 6 (by omega);have a12:ar[12]? = some (.int .i64 a.seq):=HAr.out 12 (by omega);have a13:ar[13]? = some (.bool a.last):=HAr.out 13 (by omega);have a14:ar[14]? = some (.slice ae1 a.ents.length ae3):=HAr.out 14 (by omega);have a145:ar[145]? = some (.slice an1 an2 an3):=HAE.out 0;have c4:=HBa.out.cell a4;have c5:=HBa.out.cell a5;have c6:=HBa.out.cell a6;have c12:=HBa.out.cell a12;have c14:=HBa.out.cell a14;have la:=HBa.out.lt;clear HAr HAE ha hm he hV hA hn hfz hq;cases sb with
 | false=>
  have hq:=trivial;have HR:=hid (hno (by rw[hbo];first | rfl | simp));clear hq hyes hno hbo;go_enter Tryz.func145,Tryz.ntmps145;go_wp2_with (go_at_call 101;refine((HSi _).out).mono ?_;rintro e w2 ⟨rfl,x2⟩;have HX2:=hid (HX.out.trans x2);have c12':=x2.cell c12;have c14':=x2.cell c14;have la':=Nat.lt_of_lt_of_le la x2.size;clear x2)
  go_ret;exact⟨_,rfl,by rw[HR.out];exact RowAt.nil _,HX2.out⟩
 | true=>
 by_cases d1:0≤a.seq
 rotate_left
 ·have dd1:decide (a.seq<0)=true:=decide_eq_true (by omega)
  rw[decide_eq_false d1] at hbo;have hq:=trivial;have HR:=hid (hno (by rw[hbo];first | rfl | simp));clear hq hyes hno hbo;go_enter Tryz.func145,Tryz.ntmps145;go_wp2_with (go_at_call 101;refine((HSi _).out).mono ?_;rintro e w2 ⟨rfl,x2⟩;have HX2:=hid (HX.out.trans x2);have c12':=x2.cell c12;have c14':=x2.cell c14;have la':=Nat.lt_of_lt_of_le la x2.size;clear x2)
  go_ret;exact⟨_,rfl,by rw[HR.out];exact RowAt.nil _,HX2.out⟩
 have dd1:decide (a.seq<0)=false:=decide_eq_false (by omega);by_cases d2:a.seq≤1048576
 rotate_left
 ·have dd2:decide ((1048576:Int)<a.seq)=true:=decide_eq_true (by omega)
  rw[decide_eq_false d2,decide_eq_true d1] at hbo;have hq:=trivial;have HR:=hid (hno (by rw[hbo];first | rfl | simp));clear hq hyes hno hbo;go_enter Tryz.func145,Tryz.ntmps145;go_wp2_with (go_at_call 101;refine((HSi _).out).mono ?_;rintro e w2 ⟨rfl,x2⟩;have HX2:=hid (HX.out.trans x2);have c12':=x2.cell c12;have c14':=x2.cell c14;have la':=Nat.lt_of_lt_of_le la x2.size;clear x2)
  go_ret;exact⟨_,rfl,by rw[HR.out];exact RowAt.nil _,HX2.out⟩
 have dd2:decide ((1048576:Int)<a.seq)=false:=decide_eq_false (by omega);by_cases d3:a.ents.length≤256
 rotate_left
 ·have dd3:decide ((256:Int)<a.ents.length)=true:=decide_eq_true (by omega)
  have dd3':decide (256<a.ents.length)=true:=decide_eq_true (by omega);rw[decide_eq_false d3,decide_eq_true d1,decide_eq_true d2] at hbo;have hq:=trivial;have HR:=hid (hno (by rw[hbo];first | rfl | simp));clear hq hyes hno hbo;go_enter Tryz.func145,Tryz.ntmps145;go_wp2_with (go_at_call 101;refine((HSi _).out).mono ?_;rintro e w2 ⟨rfl,x2⟩;have HX2:=hid (HX.out.trans x2);have c12':=x2.cell c12;have c14':=x2.cell c14;have la':=Nat.lt_of_lt_of_le la x2.size;clear x2)
  go_ret;exact⟨_,rfl,by rw[HR.out];exact RowAt.nil _,HX2.out⟩
 have dd3:decide ((256:Int)<a.ents.length)=false:=decide_eq_false (by omega);have dd3':decide (256<a.ents.length)=false:=decide_eq_false (by omega);rw[decide_eq_true d1,decide_eq_true d2,decide_eq_true d3] at hbo;have HR:=hid (hyes (by rw[hbo];rfl));clear hyes hno hbo d1 d2 d3;go_enter Tryz.func145,Tryz.ntmps145;go_wp2_with (go_at_call 101;refine((HSi _).out).mono ?_;rintro e w2 ⟨rfl,x2⟩;have HX2:=hid (HX.out.trans x2);have HB2:=hid (HBa.out.ext x2);have c12':=x2.cell c12;have c14':=x2.cell c14;have la':=Nat.lt_of_lt_of_le la x2.size;clear x2)
 clear c12' c14' la' c4 c5 c6 c12 c14 la HX HBa;have c4:=HB2.out.cell a4;have c5:=HB2.out.cell a5;have c6:=HB2.out.cell a6;have c12:=HB2.out.cell a12;have c13:=HB2.out.cell a13;have la:=HB2.out.lt;have HWs:=hid HX2.out.size;refine zbj (pre:=?pre72) (z1:=?z172) (z2:=?z272) ?hpre72 ?hz172 ?hz272 (by kernel_rfl) (by kernel_rfl) (by kernel_rfl) (by kernel_rfl) (by kernel_rfl) ?_
 case hpre72=>(simp only[List.dropLast_cons_cons,List.dropLast_singleton];first | done | exact rfl)
 case hz172=>(simp only[List.dropLast_cons_cons,List.dropLast_singleton,List.getLast?_cons_cons,List.getLast?_singleton];first | done | exact rfl)
 case hz272=>(simp only[List.getLast?_cons_cons,List.getLast?_singleton];first | done | exact rfl)
 repeat (first
  | (refine AWq.val rfl rfl rfl rfl (fun K hK=>?_);go_big_quiet_op;refine hK _ ?_;clear hK K)
  | (refine AWq.skip rfl rfl rfl ?_;simp only[Act.put,zq6,zq7,zq8])
  | (refine AWq.call rfl Tryz.func169 (by kernel_rfl) (by kernel_rfl) rfl rfl rfl ?_;apply Exists.intro;refine And.intro (fun wc hc=>?_) ?_;(· (simp only[zh,zm,↓reduceIte,Nat.reduceEqDiff,zq1,zq2,zq3,zq4,zq5];with_reducible exact(HFl _).out));simp only[Act.put,zq6,zq7,zq8])
  | (refine AWq.call rfl Tryz.func95 (by kernel_rfl) (by kernel_rfl) rfl rfl rfl ?_;apply Exists.intro;refine And.intro (fun wc hc=>?_) ?_;(· (simp only[zh,zm,↓reduceIte,Nat.reduceEqDiff,zq1,zq2,zq3,zq4,zq5];with_reducible exact(HN _ _).out));simp only[Act.put,zq6,zq7,zq8])
  | (refine AWq.callQ ((fun u W=>OwnF (nameF a.r1 a.r2 a.r3) w.heap.size u W ∧ ∃ q,u=.slice (some ⟨q,0,none⟩) 3 3)) ((fun u _ _ he h=>⟨OwnF.ext h.1 he,h.2⟩)) rfl Tryz.func104 (by kernel_rfl) (by kernel_rfl) rfl rfl rfl (fun wc hc=>?_) ?_;(· (simp only[zh,zm,↓reduceIte,Nat.reduceEqDiff,zq1,zq2,zq3,zq4,zq5];with_reducible exact(HNm wc (Nat.le_trans HWs.out hc.size)).out)))
  | (refine AWq.opV (fun u W=>OwnF [fN a.seq,fN fz] w.heap.size u W) (fun u _ _ he h=>OwnF.ext h he) rfl rfl rfl rfl (fun wc hc=>?_) ?_;(· (have hc2:=Nat.le_trans HWs.out hc.size;have hc':=hc.rule;clear hc;go_simp;dsimp only[Gives];exact⟨zcm wc hc2 (fN a.seq) (fN fz),Ext.alloc _ _⟩))))
 refine AWq.two rfl rfl rfl (fun w3 x3=>?_);simp only[zl,Act.put,zq6,zq7,zq8];intro v34 h34 v26 h26;obtain⟨v35,w4,hrun,hO4,hk4⟩:=h26.1.app (Nat.le_trans HWs.out x3.size) h34.sl (by simp[nameF]) (by simp);have HX4:Hid (Ext w w4):=hk4.toExt (HX2.out.trans x3) fun q hq=>(zt h26.1 q hq).1;have HB4:Hid (Blk w4 w.heap.size 36 ar):=(HB2.out.ext x3).keep hk4 (fun e=>by
  have h1:=(zt h26.1 _ e).1;obtain⟨q,hq⟩:=h26.2;have h2:=ziG h26.1 (HB2.out.ext x3) (by decide);exact h2 e)
 obtain⟨A3,cc3,rfl,_⟩:=zr hO4.sl;have HO4:=hid hO4;clear hO4 hk4 h34 h26 c4 c5 c6 c12 c13 la HB2
 at_builtin
 refine zx rfl (.tmp 26) (.tmp 34) _ _ rfl rfl rfl hrun ?_;clear hrun;have c14:=HB4.out.cell a14;have c145:=HB4.out.cell a145;have la:=HB4.out.lt;have HVL:=hid (fun j v (h:VV[j]? = some v)=>HB4.out.cell (HAV.out j v h));have HAL:=hid (fun j v (h:AA[j]? = some v)=>HB4.out.cell (HAA.out j v h));go_wp2_with fail
 refine zc (by kernel_rfl) (by kernel_rfl) (by kernel_rfl) ?_
 repeat (first
  | (refine AWq.val rfl rfl rfl rfl (fun K hK=>?_);go_big_quiet_op;refine hK _ ?_;clear hK K)
  | (refine AWq.skip rfl rfl rfl ?_;simp only[Act.put,zq6,zq7,zq8])
  | (refine AWq.call rfl Tryz.func131 (by kernel_rfl) (by kernel_rfl) rfl rfl rfl ?_;apply Exists.intro;refine And.intro (fun wc hc=>?_) ?_;(· (simp only[zh,zm,↓reduceIte,Nat.reduceEqDiff,zq1,zq2,zq3,zq4,zq5];with_reducible exact(HPi _ (HX4.out.trans hc)).out));simp only[Act.put,zq6,zq7,zq8])
  | (refine AWq.call rfl Tryz.func129 (by kernel_rfl) (by kernel_rfl) rfl rfl rfl ?_;apply Exists.intro;refine And.intro (fun wc hc=>?_) ?_;(· (simp only[zh,zm,↓reduceIte,Nat.reduceEqDiff,zq1,zq2,zq3,zq4,zq5];with_reducible exact(HPv _).out));simp only[Act.put,zq6,zq7,zq8])
  | (refine AWq.call rfl Tryz.func129 (by kernel_rfl) (by kernel_rfl) rfl rfl rfl ?_;apply Exists.intro;refine And.intro (fun wc hc=>?_) ?_;(· (simp only[zh,zm,↓reduceIte,Nat.reduceEqDiff,zq1,zq2,zq3,zq4,zq5];with_reducible exact(HPa _).out));simp only[Act.put,zq6,zq7,zq8])
  | (refine AWq.val rfl rfl rfl rfl (fun K hK=>?_);refine zj rfl rfl (fun wc hwc=>by obtain⟨E,rfl⟩:=hwc;exact zK hVs.out (fun j v hv=>(Ext.of_wext _ _).cell (HVL.out j v hv))) (hK _ ?_);clear hK K;simp only[Act.put,zq6,zq7,zq8])
  | (refine AWq.val rfl rfl rfl rfl (fun K hK=>?_);refine zj rfl rfl (fun wc hwc=>by obtain⟨E,rfl⟩:=hwc;exact zK hAs.out (fun j v hv=>(Ext.of_wext _ _).cell (HAL.out j v hv))) (hK _ ?_);clear hK K;simp only[Act.put,zq6,zq7,zq8])
  | (refine AWq.callQ (RowAt FldI.cells 3 ef) (RowAt.steady _ _ _) rfl Tryz.func172 (by kernel_rfl) (by kernel_rfl) rfl rfl rfl (fun wc hc=>?_) ?_;(· (simp only[zh,zm,↓reduceIte,Nat.reduceEqDiff,zq1,zq2,zq3,zq4,zq5];with_reducible exact(HLi _ (HX4.out.trans hc)).out)))
  | (refine AWq.callQ (RowAt FldI.cells 3 (zR sv ev)) (RowAt.steady _ _ _) rfl Tryz.func170 (by kernel_rfl) (by kernel_rfl) rfl rfl rfl (fun wc hc=>?_) ?_;(· (simp only[zh,zm,↓reduceIte,Nat.reduceEqDiff,zq1,zq2,zq3,zq4,zq5];with_reducible exact(HTx _ sv ev).out)))
  | (refine AWq.callQ (RowAt FldI.cells 3 (zR sa ea)) (RowAt.steady _ _ _) rfl Tryz.func170 (by kernel_rfl) (by kernel_rfl) rfl rfl rfl (fun wc hc=>?_) ?_;(· (simp only[zh,zm,↓reduceIte,Nat.reduceEqDiff,zq1,zq2,zq3,zq4,zq5];with_reducible exact(HTx _ sa ea).out)))
  | (refine AWq.callQ (RowAt FldI.cells 3 (zR sn en)) (RowAt.steady _ _ _) rfl Tryz.func170 (by kernel_rfl) (by kernel_rfl) rfl rfl rfl (fun wc hc=>?_) ?_;(· (simp only[zh,zm,↓reduceIte,Nat.reduceEqDiff,zq1,zq2,zq3,zq4,zq5];with_reducible exact(HTx _ sn en).out)))
  | (refine AWq.opQ (Rows [nameF a.r1 a.r2 a.r3++[fN a.seq,fN fz],ef,zR sv ev,zR sa ea,zR sn en]) (fun u _ _ he h=>Rows.steady _ u _ _ he h) rfl (fun a9 wc hc hl'=>⟨rfl,?_⟩) ?_;(· (have f0:Sl wc 3 (.slice A3 (nameF a.r1 a.r2 a.r3++[fN a.seq,fN fz]).length cc3) _:=(HO4.out.ext hc).sl;have g0:a9.tmps.getD 36 undef=.slice A3 (nameF a.r1 a.r2 a.r3++[fN a.seq,fN fz]).length cc3:=hl' 36 (of_decide_eq_true (by kernel_rfl));have f1:RowAt FldI.cells 3 (ef) (a9.tmps.getD 39 undef) wc:=hl' 39 (of_decide_eq_true (by kernel_rfl));obtain⟨s1,g1⟩:=zcK f1;rw[g1] at f1;have f2:RowAt FldI.cells 3 (zR sv ev) (a9.tmps.getD 45 undef) wc:=hl' 45 (of_decide_eq_true (by kernel_rfl));obtain⟨s2,g2⟩:=zcK f2;rw[g2] at f2;have f3:RowAt FldI.cells 3 (zR sa ea) (a9.tmps.getD 51 undef) wc:=hl' 51 (of_decide_eq_true (by kernel_rfl));obtain⟨s3,g3⟩:=zcK f3;rw[g3] at f3;have f4:RowAt FldI.cells 3 (zR sn en) (a9.tmps.getD 57 undef) wc:=hl' 57 (of_decide_eq_true (by kernel_rfl));obtain⟨s4,g4⟩:=zcK f4;rw[g4] at f4;refine zfv (vs:=#[(0,(⟨A3,_,cc3⟩:SlV).val),(1,s1.val),(2,s2.val),(3,s3.val),(4,s4.val)]) rfl (by simp only[List.map_toArray,List.map_cons,List.map_nil];(have k0:a9.eval (.tmp 36)=_:=g0);(have k1:a9.eval (.tmp 39)=_:=g1);(have k2:a9.eval (.tmp 45)=_:=g2);(have k3:a9.eval (.tmp 51)=_:=g3);(have k4:a9.eval (.tmp 57)=_:=g4);rw[k0,k1,k2,k3,k4];rfl) (build_5 wc ⟨A3,_,cc3⟩ s1 s2 s3 s4) ⟨rows_5 (s0:=⟨A3,_,cc3⟩) f0 f1.1 f2.1 f3.1 f4.1,Ext.alloc _ _⟩)))
  | (refine AWq.callQ (RowAt FldI.cells 3 (zav [nameF a.r1 a.r2 a.r3++[fN a.seq,fN fz],ef,zR sv ev,zR sa ea,zR sn en])) (RowAt.steady _ _ _) rfl Tryz.func103 (by kernel_rfl) (by kernel_rfl) rfl rfl rfl (fun wc hc=>?_) ?_;(· (simp only[zh,zm,↓reduceIte,Nat.reduceEqDiff,zq1,zq2,zq3,zq4,zq5];intro v9 h9;exact(HW5 _ _ h9).out)))
  | (refine AWq.opQ (RowAt FldI.cells 3 (zav [nameF a.r1 a.r2 a.r3++[fN a.seq,fN fz],ef,zR sv ev,zR sa ea,zR sn en])) (RowAt.steady _ _ _) rfl (fun a wc hc hl'=>⟨rfl,?_⟩) ?_;(· (have e:=hl' 59 (of_decide_eq_true (by kernel_rfl));exact⟨e,Ext.refl _⟩))))
 refine AWq.done rfl rfl rfl (fun w5 x5=>?_);simp only[zl,Act.put,zq6,zq7,zq8];intro u2 h2
 all_goals intros
 go_wp2_with fail
 go_ret;exact⟨_,rfl,by rw[HR.out];exact h2,HX4.out.trans x5⟩
end
section
open Go.RowKit
structure MsgOk (m:MsgI):Prop where
 f:∀ c∈m.f,c.pre.size≤90000
 k:KnowOk m.k
 held:m.held.length≤1000
 ents:∀ e∈m.ents,EntOk e
 entl:m.ents.length≤1000
 V:zaA m.V
 A:zaA m.A
 not:∀ c∈m.not,zax c
 notl:m.not.length≤90000
 kind:in64 m.kind
 s:in64 m.s1∧in64 m.s2∧in64 m.s3
 r:in64 m.r1∧in64 m.r2∧in64 m.r3
 seq:in64 m.seq
 code:in64 m.code
 heldV:∀ p∈m.held,zax p.a∧zax p.b
theorem MsgAt.ext {w w':World} {S:SlM} {m:MsgI} (h:MsgAt w S m) (he:Ext w w'):MsgAt w' S m:=⟨h.f.ext he,h.k.ext he,h.held.ext he,h.ents.ext he,h.not.ext he⟩
def zbK (m:MsgI):List FldI:=if m.kind=1 then zbB m else if m.kind=2 then zcl m else if m.kind=3 then(if sidB m.r1 m.r2 m.r3 then nameF m.r1 m.r2 m.r3 else []) else if m.kind=4∧1≤m.code∧m.code≤100 then [fN m.code] else []
def zdb (m:MsgI):List FldI:=if sidB m.s1 m.s2 m.s3&&decide (m=zI m) then zav [fN m.kind::nameF m.s1 m.s2 m.s3,zbK m] else []
attribute [-simp] Tryz.isAgg36 Tryz.sizeOf36
theorem zlq {R:List FldI} {B q:Nat} {w:World} (h:OwnF R B (.slice (some ⟨q,0,none⟩) 3 3) w):R.length=3:=by
 obtain⟨A,c,e,_⟩:=zr h.sl;injection e with _ e
 exact e.symm
theorem rest_c (w:World) (S:SlM) (a:MsgI) (mx:Int) (hm:w.cell? ⟨0,0,none⟩=some (.int .i64 mx)) (ha:MsgAt w S a) (hok:MsgOk a):Calls Tryz.prog 105 #[.agg (a.at S).arr] w (RetQ (RowAt FldI.cells 3 (zbK a)) w):=by
 have HRq:=fun W (hW:Ext w W)=>hid (zj8 W S a mx (hW.cell hm) (ha.ext hW) hok.f hok.k hok.held);have HBt:=fun W (hW:Ext w W)=>hid (batch_c W S a mx (hW.cell hm) (ha.ext hW) hok.ents hok.entl hok.V hok.A hok.not hok.notl);have HSi:=fun W=>hid (ziR W a.r1 a.r2 a.r3);have HNm:=fun W=>hid (zgU W a.r1 a.r2 a.r3);have HN:=fun W=>hid (fN_c W a.code);unfold sidV at HSi HNm;clear ha hok hm;have HA:=hid (zP (a.at S));have HAE:=hid (zad (a.at S));have hz:=hid (zy (a.at S));generalize (a.at S).arr=ar at HA HAE hz HRq HBt⊢;have HBa:=hid (Blk.new w 36 ar);have HX:=hid (Ext.alloc w (.cells ar 36))
 have a0:ar[0]? = some (.int .i64 a.kind):=HA.out 0 (by omega);have a4:ar[4]? = some (.int .i64 a.r1):=HA.out 4 (by omega);have a5:ar[5]? = some (.int .i64 a.r2):=HA.out 5 (by omega);have a6:ar[6]? = some (.int .i64 a.r3):=HA.out 6 (by omega);have a146:ar[146]? = some (.int .i64 a.code):=HAE.out 1;have c0:=HBa.out.cell a0;have c4:=HBa.out.cell a4;have c5:=HBa.out.cell a5;have c6:=HBa.out.cell a6;have c146:=HBa.out.cell a146;have la:=HBa.out.lt;clear HA HAE a4 a5 a6 a0;by_cases h1:a.kind=1
 ·have HR:Hid (zbK a=zbB a):=if_pos h1
  have d1:(a.kind==1)=true:=by rw[h1];decide
  clear h1 HBt HSi HNm HN;generalize zbB a=R at HRq HR;go_enter Tryz.func105,Tryz.ntmps105;go_wp2_with fail
  simp only[Tryz.isAgg36,Tryz.sizeOf36,Result.andThen,↓reduceIte,za HBa.out 147 hz.out];rw[Oper.upon_value];go_wp2_with fail
  refine((HRq _ HX.out).out).mono ?_;rintro en w2 ⟨u,rfl,hu,x2⟩;have HU:=hid hu;have HX2:=hid (HX.out.trans x2);clear hu x2;go_wp2_with fail
  go_ret;exact⟨_,rfl,by rw[HR.out];exact HU.out,HX2.out⟩
 have d1:(a.kind==1)=false:=by simpa using h1
 by_cases h2:a.kind=2
 ·have HR:Hid (zbK a=zcl a):=by unfold zbK Hid;rw[if_neg h1,if_pos h2]
  have d2:(a.kind==2)=true:=by rw[h2];decide
  clear h1 h2 HRq HSi HNm HN;generalize zcl a=R at HBt HR;go_enter Tryz.func105,Tryz.ntmps105;go_wp2_with fail
  simp only[Tryz.isAgg36,Tryz.sizeOf36,Result.andThen,↓reduceIte,za HBa.out 147 hz.out];rw[Oper.upon_value];go_wp2_with fail
  refine((HBt _ HX.out).out).mono ?_;rintro en w2 ⟨u,rfl,hu,x2⟩;have HU:=hid hu;have HX2:=hid (HX.out.trans x2);clear hu x2;go_wp2_with fail
  go_ret;exact⟨_,rfl,by rw[HR.out];exact HU.out,HX2.out⟩
 have d2:(a.kind==2)=false:=by simpa using h2
 clear HRq HBt;by_cases h3:a.kind=3
 ·have hR:zbK a=if sidB a.r1 a.r2 a.r3 then nameF a.r1 a.r2 a.r3 else []:=by unfold zbK;rw[if_neg h1,if_neg h2,if_pos h3]
  have d3:(a.kind==3)=true:=by rw[h3];decide
  have d4:(a.kind==4)=false:=by rw[h3];decide
  cases hb:sidB a.r1 a.r2 a.r3 with
  | false=>
   rw[hb,if_neg Bool.false_ne_true] at hR;rw[hb] at HSi;have HR:=hid hR;clear h1 h2 h3 hR hb;go_enter Tryz.func105,Tryz.ntmps105;go_wp2_with fail
   refine((HSi _).out).mono ?_;rintro en w2 ⟨rfl,x2⟩;have HX2:=hid (HX.out.trans x2);have c0':=x2.cell c0;have la':=Nat.lt_of_lt_of_le la x2.size;clear x2;go_wp2_with fail
   go_ret;exact⟨_,rfl,by rw[HR.out];exact RowAt.nil _,HX2.out⟩
  | true=>
   rw[hb,if_pos rfl] at hR;rw[hb] at HSi;have HR:=hid hR;clear h1 h2 h3 hR hb;generalize nameF a.r1 a.r2 a.r3=R at HNm HR;go_enter Tryz.func105,Tryz.ntmps105;go_wp2_with fail
   refine((HSi _).out).mono ?_;rintro en w2 ⟨rfl,x2⟩;have HX2:=hid (HX.out.trans x2);have c4':=x2.cell c4;have c5':=x2.cell c5;have c6':=x2.cell c6;have la':=Nat.lt_of_lt_of_le la x2.size;clear x2;go_wp2_with fail
   refine((HNm _).out).mono ?_;rintro en w3 ⟨u,rfl,⟨hu,q,rfl⟩,x3⟩;have HU:=hid hu.sl;have HX3:=hid (HX2.out.trans x3);have hl:R.length=3:=zlq hu;clear hu x3;go_wp2_with fail
   go_ret;exact⟨_,rfl,by rw[HR.out];exact⟨HU.out,fun h=>by omega⟩,HX3.out⟩
 have d3:(a.kind==3)=false:=by simpa using h3
 by_cases h4:a.kind=4
 ·have hR:zbK a=if a.kind=4∧1≤a.code∧a.code≤100 then [fN a.code] else []:=by unfold zbK;rw[if_neg h1,if_neg h2,if_neg h3]
  have d4:(a.kind==4)=true:=by rw[h4];decide
  by_cases e1:1≤a.code
  ·by_cases e2:a.code≤100
   ·rw[if_pos ⟨h4,e1,e2⟩] at hR
    have HR:=hid hR;have d5:decide (1≤a.code)=true:=decide_eq_true e1;have d6:decide (a.code≤100)=true:=decide_eq_true e2;clear h1 h2 h3 h4 hR HSi HNm;go_enter Tryz.func105,Tryz.ntmps105;go_wp2_with fail
    refine((HN _).out).mono ?_;rintro en w2 ⟨rfl,x2⟩;have HX2:=hid (HX.out.trans x2);clear x2;have HO:=hid (OwnF.sl (l:=[fN a.code]) (zff w2 (fN a.code)));have HX3:=hid (HX2.out.alloc' (.cells #[.int .i64 a.code,.string ⟨#[]⟩,.bool false] 140));go_wp2_with fail
    go_ret;exact⟨_,rfl,by rw[HR.out];exact⟨HO.out,fun h=>by cases h⟩,HX3.out⟩
   ·rw[if_neg (fun h=>e2 h.2.2)] at hR
    have HR:=hid hR;have d5:decide (1≤a.code)=true:=decide_eq_true e1;have d6:decide (a.code≤100)=false:=decide_eq_false e2;clear h1 h2 h3 h4 hR HSi HNm;go_enter Tryz.func105,Tryz.ntmps105;go_wp2_with fail
    go_ret;exact⟨_,rfl,by rw[HR.out];exact RowAt.nil _,HX.out⟩
  ·rw[if_neg (fun h=>e1 h.2.1)] at hR
   have HR:=hid hR;have d5:decide (1≤a.code)=false:=decide_eq_false e1;clear h1 h2 h3 h4 hR HSi HNm;go_enter Tryz.func105,Tryz.ntmps105;go_wp2_with fail
   go_ret;exact⟨_,rfl,by rw[HR.out];exact RowAt.nil _,HX.out⟩
 ·have HR:Hid (zbK a=[]):=by unfold zbK Hid;rw[if_neg h1,if_neg h2,if_neg h3,if_neg (fun h=>h4 h.1)]
  have d4:(a.kind==4)=false:=by simpa using h4
  clear h1 h2 h3 h4 HSi HNm;go_enter Tryz.func105,Tryz.ntmps105;go_wp2_with fail
  go_ret;exact⟨_,rfl,by rw[HR.out];exact RowAt.nil _,HX.out⟩
end
section
open Go.RowKit
theorem zeS (ls:List (List FldI)):(zav ls).length≤(ls.map List.length).sum:=by
 unfold zav
 split
 ·rw[List.length_flatten];exact Nat.le_refl _
 ·simp
theorem zhj (s:ByteArray) (e:Int):(zR s e).length≤1:=by unfold zR;split <;> simp
theorem zkA (l:List PairI):(zcn l).length≤5*l.length+1:=by
 unfold zcn
 split
 ·unfold zdo
  have:=zcQ bothF zd4 l;rw[List.length_cons];omega
 ·simp
theorem zkN (l:List EntI):(zco l).length≤5*l.length+1:=by
 unfold zco
 split
 ·have:=zcQ entF zeK l
  rw[List.length_cons];omega
 ·simp
theorem rest_le (a:MsgI) (hok:MsgOk a):(zbK a).length≤6000:=by
 have h1:=hok.held;have h2:=hok.entl;have h3:=zkA a.held;have h4:=zkN a.ents;unfold zbK
 split
 ·unfold zbB
  split
  ·simp
  ·refine Nat.le_trans (zeS _) ?_
   simp only[List.map_cons,List.map_nil,List.sum_cons,List.sum_nil,List.length_cons,List.length_nil];have a1:=zhj (putB (zH a.f) (zg clB a.f)) (okZ (zH a.f));have a2:=zhj (putX (mayB a.k) (zaj a.k)) (errX (mayB a.k) (zaj a.k));omega
 ·split
  ·unfold zcl
   split
   ·refine Nat.le_trans (zeS _) ?_
    simp only[List.map_cons,List.map_nil,List.sum_cons,List.sum_nil,List.length_cons,List.length_nil,List.length_append,nameF];have a1:=zhj (putB (decide (a.V=cleanL a.V)) (zg verB (endsL a.V))) (okZ (decide (a.V=cleanL a.V)));have a2:=zhj (putB (decide (a.A=cleanL a.A)) (zg verB (endsL a.A))) (okZ (decide (a.A=cleanL a.A)));have a3:=zhj (putX (itemsB a.not) (zg verB a.not)) (errX (itemsB a.not) (zg verB a.not));omega
   ·simp
  ·split
   ·split
    ·simp[nameF]
    ·simp
   ·split <;> simp
attribute [-simp] Tryz.isAgg36 Tryz.sizeOf36
theorem zme (w:World) (S:SlM) (a:MsgI) (mx:Int) (hm:w.cell? ⟨0,0,none⟩=some (.int .i64 mx)) (ha:MsgAt w S a) (hok:MsgOk a):Calls Tryz.prog 58 #[.agg (a.at S).arr] w (RetQ (RowAt FldI.cells 3 (zdb a)) w):=by
 have HA:=hid (zP (a.at S));have HSi:=fun W=>hid (ziR W a.s1 a.s2 a.s3);have HOn:=fun W=>hid (only_c W S a);have HSm:=fun W (hW:Ext w W)=>hid (zgT W S (zU a S) a (zI a) (ha.ext hW) (only_at (ha.ext hW)));have HRe:=fun W (hW:Ext w W)=>hid (rest_c W S a mx (hW.cell hm) (ha.ext hW) hok);have HNm:∀ W:World,w.heap.size≤W.heap.size→Hid (Calls Tryz.prog 104 #[sidV a.s1 a.s2 a.s3] W (RetQ (fun u W=>OwnF (nameF a.s1 a.s2 a.s3) w.heap.size u W ∧ ∃ q,u=.slice (some ⟨q,0,none⟩) 3 3) W)):=fun W hW=>(zgU W a.s1 a.s2 a.s3).mono fun e w' ⟨v,e1,⟨e2,e3⟩,e4⟩=>⟨v,e1,⟨e2.weak hW,e3⟩,e4⟩
 have HN:=fun W=>hid (fN_c W a.kind);have hle:=rest_le a hok;have HW2:=fun W u (h:Rows [fN a.kind::nameF a.s1 a.s2 a.s3,zbK a] u W)=>hid (zgH h (by simp) (fun l hl=>by
  simp only[List.mem_cons,List.not_mem_nil,or_false] at hl;rcases hl with rfl | rfl
  ·simp[nameF]
  ·exact hle))
 have hq:zdb a=if sidB a.s1 a.s2 a.s3&&decide (a=zI a) then zav [fN a.kind::nameF a.s1 a.s2 a.s3,zbK a] else []:=rfl;have hz:=hid (zy (a.at S));unfold sidV at HSi HNm;clear hle ha hm hok;generalize zdb a=R at hq⊢;generalize zbK a=rs at hq HRe HW2;generalize decide (a=zI a)=so at hq HSm;generalize sidB a.s1 a.s2 a.s3=sb at hq HSi;generalize ((zI a).at (zU a S)).arr=br at HOn HSm;generalize (a.at S).arr=ar at HA HSm HOn HRe hz⊢;have HBa:=hid (Blk.new w 36 ar);have HX:=hid (Ext.alloc w (.cells ar 36));have a0:ar[0]? = some (.int .i64 a.kind):=HA.out 0 (by omega);have a1:ar[1]? = some (.int .i64 a.s1):=HA.out 1 (by omega)
 have a2:ar[2]? = some (.int .i64 a.s2):=HA.out 2 (by omega);have a3:ar[3]? = some (.int .i64 a.s3):=HA.out 3 (by omega);have c1:=HBa.out.cell a1;have c2:=HBa.out.cell a2;have c3:=HBa.out.cell a3;have la:=HBa.out.lt;clear HA;cases sb with
 | false=>
  have HR:=hid hq;clear hq HSm HRe HNm HN HW2;go_enter Tryz.func58,Tryz.ntmps58;go_upto_region 1 with fail
  generalize w.alloc (.cells ar 36)=w1 at HBa HX c1 c2 c3 la⊢;refine zc (by kernel_rfl) (by kernel_rfl) (by kernel_rfl) ?_
  repeat (first
   | (refine AWq.val rfl rfl rfl rfl (fun K hK=>?_);go_big_quiet_op;refine hK _ ?_;clear hK K)
   | (refine AWq.skip rfl rfl rfl ?_;simp only[Act.put,zq6,zq7,zq8])
   | (refine AWq.call rfl Tryz.func101 (by kernel_rfl) (by kernel_rfl) rfl rfl rfl ?_;apply Exists.intro;refine And.intro (fun wc hc=>?_) ?_;(· (simp only[zh,zm,↓reduceIte,Nat.reduceEqDiff,zq1,zq2,zq3,zq4,zq5];with_reducible exact(HSi _).out));simp only[Act.put,zq6,zq7,zq8]))
  refine AWq.done rfl rfl rfl (fun w2 x2=>?_);simp only[zl,Act.put,zq6,zq7,zq8]
  all_goals intros
  go_wp2_with fail
  go_ret;exact⟨_,rfl,by rw[HR.out];exact RowAt.nil _,HX.out.trans x2⟩
 | true=>
 have HL1:=hid (fun(j:Nat) v (h:ar[j]? = some v)=>HBa.out.cell h);cases so with
 | false=>
  have HR:=hid hq;clear hq HRe HNm HN HW2;go_enter Tryz.func58,Tryz.ntmps58;go_upto_region 1 with fail
  generalize w.alloc (.cells ar 36)=w1 at HBa HX c1 c2 c3 la HL1⊢;refine zc (by kernel_rfl) (by kernel_rfl) (by kernel_rfl) ?_
  repeat (first
   | (refine AWq.val rfl rfl rfl rfl (fun K hK=>?_);go_big_quiet_op;refine hK _ ?_;clear hK K)
   | (refine AWq.skip rfl rfl rfl ?_;simp only[Act.put,zq6,zq7,zq8])
   | (refine AWq.call rfl Tryz.func101 (by kernel_rfl) (by kernel_rfl) rfl rfl rfl ?_;apply Exists.intro;refine And.intro (fun wc hc=>?_) ?_;(· (simp only[zh,zm,↓reduceIte,Nat.reduceEqDiff,zq1,zq2,zq3,zq4,zq5];with_reducible exact(HSi _).out));simp only[Act.put,zq6,zq7,zq8])
   | (refine AWq.call rfl Tryz.func102 (by kernel_rfl) (by kernel_rfl) rfl rfl rfl ?_;apply Exists.intro;refine And.intro (fun wc hc=>?_) ?_;(· (simp only[zh,zm,↓reduceIte,Nat.reduceEqDiff,zq1,zq2,zq3,zq4,zq5];with_reducible exact(HOn _).out));simp only[Act.put,zq6,zq7,zq8])
   | (refine AWq.call rfl Tryz.func19 (by kernel_rfl) (by kernel_rfl) rfl rfl rfl ?_;apply Exists.intro;refine And.intro (fun wc hc=>?_) ?_;(· (simp only[zh,zm,↓reduceIte,Nat.reduceEqDiff,zq1,zq2,zq3,zq4,zq5];with_reducible exact(HSm _ (HX.out.trans hc)).out));simp only[Act.put,zq6,zq7,zq8])
   | (refine AWq.val rfl rfl rfl rfl (fun K hK=>?_);refine zj rfl rfl (fun wc hwc=>by obtain⟨E,rfl⟩:=hwc;exact zaI hz.out (fun j v hv=>by rw[Nat.zero_add];exact(Ext.of_wext _ _).cell (HL1.out j v hv))) (hK _ ?_);clear hK K;simp only[Act.put,zq6,zq7,zq8])
   | (refine AWq.val rfl rfl rfl rfl (fun K hK=>?_);refine zj rfl rfl (fun wc hwc=>by obtain⟨E,rfl⟩:=hwc;exact zaI hz.out (fun j v hv=>by rw[Nat.zero_add];exact(Ext.of_wext _ _).cell (HL1.out j v hv))) (hK _ ?_);clear hK K;simp only[Act.put,zq6,zq7,zq8]))
  refine AWq.done rfl rfl rfl (fun w2 x2=>?_);simp only[zl,Act.put,zq6,zq7,zq8]
  all_goals intros
  go_wp2_with fail
  go_ret;exact⟨_,rfl,by rw[HR.out];exact RowAt.nil _,HX.out.trans x2⟩
 | true=>
  have HR:=hid hq;clear hq;go_enter Tryz.func58,Tryz.ntmps58;go_upto_region 1 with fail
  generalize w.alloc (.cells ar 36)=w1 at HBa HX c1 c2 c3 la HL1⊢;refine zc (by kernel_rfl) (by kernel_rfl) (by kernel_rfl) ?_
  repeat (first
   | (refine AWq.val rfl rfl rfl rfl (fun K hK=>?_);go_big_quiet_op;refine hK _ ?_;clear hK K)
   | (refine AWq.skip rfl rfl rfl ?_;simp only[Act.put,zq6,zq7,zq8])
   | (refine AWq.call rfl Tryz.func101 (by kernel_rfl) (by kernel_rfl) rfl rfl rfl ?_;apply Exists.intro;refine And.intro (fun wc hc=>?_) ?_;(· (simp only[zh,zm,↓reduceIte,Nat.reduceEqDiff,zq1,zq2,zq3,zq4,zq5];with_reducible exact(HSi _).out));simp only[Act.put,zq6,zq7,zq8])
   | (refine AWq.call rfl Tryz.func102 (by kernel_rfl) (by kernel_rfl) rfl rfl rfl ?_;apply Exists.intro;refine And.intro (fun wc hc=>?_) ?_;(· (simp only[zh,zm,↓reduceIte,Nat.reduceEqDiff,zq1,zq2,zq3,zq4,zq5];with_reducible exact(HOn _).out));simp only[Act.put,zq6,zq7,zq8])
   | (refine AWq.call rfl Tryz.func19 (by kernel_rfl) (by kernel_rfl) rfl rfl rfl ?_;apply Exists.intro;refine And.intro (fun wc hc=>?_) ?_;(· (simp only[zh,zm,↓reduceIte,Nat.reduceEqDiff,zq1,zq2,zq3,zq4,zq5];with_reducible exact(HSm _ (HX.out.trans hc)).out));simp only[Act.put,zq6,zq7,zq8])
   | (refine AWq.val rfl rfl rfl rfl (fun K hK=>?_);refine zj rfl rfl (fun wc hwc=>by obtain⟨E,rfl⟩:=hwc;exact zaI hz.out (fun j v hv=>by rw[Nat.zero_add];exact(Ext.of_wext _ _).cell (HL1.out j v hv))) (hK _ ?_);clear hK K;simp only[Act.put,zq6,zq7,zq8])
   | (refine AWq.val rfl rfl rfl rfl (fun K hK=>?_);refine zj rfl rfl (fun wc hwc=>by obtain⟨E,rfl⟩:=hwc;exact zaI hz.out (fun j v hv=>by rw[Nat.zero_add];exact(Ext.of_wext _ _).cell (HL1.out j v hv))) (hK _ ?_);clear hK K;simp only[Act.put,zq6,zq7,zq8]))
  refine AWq.done rfl rfl rfl (fun w2 x2=>?_);simp only[zl,Act.put,zq6,zq7,zq8]
  all_goals intros
  clear c1 c2 c3 la HL1 HSm HOn HSi;have HX2:=hid (HX.out.trans x2);have HWs:=hid HX2.out.size;have HB2:=hid (HBa.out.ext x2);have c0:=HB2.out.cell a0;have c1:=HB2.out.cell a1;have c2:=HB2.out.cell a2;have c3:=HB2.out.cell a3;have la:=HB2.out.lt;have HL2:=hid (fun(j:Nat) v (h:ar[j]? = some v)=>HB2.out.cell h);clear x2 HX HBa;go_wp2_with fail
  refine zc (by kernel_rfl) (by kernel_rfl) (by kernel_rfl) ?_
  repeat (first
   | (refine AWq.val rfl rfl rfl rfl (fun K hK=>?_);go_big_quiet_op;refine hK _ ?_;clear hK K)
   | (refine AWq.skip rfl rfl rfl ?_;simp only[Act.put,zq6,zq7,zq8])
   | (refine AWq.call rfl Tryz.func95 (by kernel_rfl) (by kernel_rfl) rfl rfl rfl ?_;apply Exists.intro;refine And.intro (fun wc hc=>?_) ?_;(· (simp only[zh,zm,↓reduceIte,Nat.reduceEqDiff,zq1,zq2,zq3,zq4,zq5];with_reducible exact(HN _).out));simp only[Act.put,zq6,zq7,zq8])
   | (refine AWq.callQ ((fun u W=>OwnF (nameF a.s1 a.s2 a.s3) w.heap.size u W ∧ ∃ q,u=.slice (some ⟨q,0,none⟩) 3 3)) ((fun u _ _ he h=>⟨OwnF.ext h.1 he,h.2⟩)) rfl Tryz.func104 (by kernel_rfl) (by kernel_rfl) rfl rfl rfl (fun wc hc=>?_) ?_;(· (simp only[zh,zm,↓reduceIte,Nat.reduceEqDiff,zq1,zq2,zq3,zq4,zq5];with_reducible exact(HNm wc (Nat.le_trans HWs.out hc.size)).out)))
   | (refine AWq.callQ (RowAt FldI.cells 3 rs) (RowAt.steady _ _ _) rfl Tryz.func105 (by kernel_rfl) (by kernel_rfl) rfl rfl rfl (fun wc hc=>?_) ?_;(· (simp only[zh,zm,↓reduceIte,Nat.reduceEqDiff,zq1,zq2,zq3,zq4,zq5];with_reducible exact(HRe _ (HX2.out.trans hc)).out)))
   | (refine AWq.val rfl rfl rfl rfl (fun K hK=>?_);refine zj rfl rfl (fun wc hwc=>by obtain⟨E,rfl⟩:=hwc;exact zaI hz.out (fun j v hv=>by rw[Nat.zero_add];exact(Ext.of_wext _ _).cell (HL2.out j v hv))) (hK _ ?_);clear hK K;simp only[Act.put,zq6,zq7,zq8])
   | (refine AWq.opV (fun u W=>OwnF [fN a.kind] w.heap.size u W ∧ ∃ q,u=.slice (some ⟨q,0,none⟩) 1 1) (fun u _ _ he h=>⟨OwnF.ext h.1 he,h.2⟩) rfl rfl rfl rfl (fun wc hc=>?_) ?_;(· (have hc2:=Nat.le_trans HWs.out hc.size;have hc':=hc.rule;clear hc;go_simp;dsimp only[Gives];exact⟨⟨(zff wc (fN a.kind)).weak hc2,_,rfl⟩,Ext.alloc _ _⟩)))
   | (refine AWq.opQ (fun u W=>Sl W 3 u ((fN a.kind::nameF a.s1 a.s2 a.s3).map FldI.cells)) (fun u=>Sl.steady 3 _ u) rfl (fun a9 wc hc hl'=>⟨rfl,?_⟩) ?_;(· (have e17:OwnF [fN a.kind] w.heap.size (a9.tmps.getD 17 undef) wc ∧ ∃ q,a9.tmps.getD 17 undef=.slice (some ⟨q,0,none⟩) 1 1:=hl' 17 (of_decide_eq_true (by kernel_rfl));have e20:OwnF (nameF a.s1 a.s2 a.s3) w.heap.size (a9.tmps.getD 20 undef) wc ∧ ∃ q,a9.tmps.getD 20 undef=.slice (some ⟨q,0,none⟩) 3 3:=hl' 20 (of_decide_eq_true (by kernel_rfl));obtain⟨o17,q17,e17⟩:=e17;rw[e17] at o17;obtain⟨v',w',hr',hO,hX⟩:=OwnF.app_full (l:=[fN a.kind]) o17 (Nat.le_trans HWs.out hc.size) e20.1.sl (by simp) (by simp[nameF]);exact zeg (a:=a9) (s:=.tmp 17) (x:=.tmp 20) rfl e17 rfl hr' ⟨hO.sl,hX⟩)))
   | (refine AWq.opQ (Rows [fN a.kind::nameF a.s1 a.s2 a.s3,rs]) (fun u _ _ he h=>Rows.steady _ u _ _ he h) rfl (fun a9 wc hc hl'=>⟨rfl,?_⟩) ?_;(· (have f0:Sl wc 3 (a9.tmps.getD 21 undef) ((fN a.kind::nameF a.s1 a.s2 a.s3).map FldI.cells):=hl' 21 (of_decide_eq_true (by kernel_rfl));obtain⟨A0,cc0,g0,_⟩:=zr f0;rw[g0] at f0;have f1:RowAt FldI.cells 3 rs (a9.tmps.getD 23 undef) wc:=hl' 23 (of_decide_eq_true (by kernel_rfl));obtain⟨s1,g1⟩:=zcK f1;rw[g1] at f1;refine zfv (vs:=#[(0,(⟨A0,_,cc0⟩:SlV).val),(1,s1.val)]) rfl (by simp only[List.map_toArray,List.map_cons,List.map_nil];(have k0:a9.eval (.tmp 21)=_:=g0);(have k1:a9.eval (.tmp 23)=_:=g1);rw[k0,k1];rfl) (build_2 wc ⟨A0,_,cc0⟩ s1) ⟨rows_2 (s0:=⟨A0,_,cc0⟩) f0 f1.1,Ext.alloc _ _⟩)))
   | (refine AWq.callQ (RowAt FldI.cells 3 (zav [fN a.kind::nameF a.s1 a.s2 a.s3,rs])) (RowAt.steady _ _ _) rfl Tryz.func103 (by kernel_rfl) (by kernel_rfl) rfl rfl rfl (fun wc hc=>?_) ?_;(· (simp only[zh,zm,↓reduceIte,Nat.reduceEqDiff,zq1,zq2,zq3,zq4,zq5];intro v9 h9;exact(HW2 _ _ h9).out)))
   | (refine AWq.opQ (RowAt FldI.cells 3 (zav [fN a.kind::nameF a.s1 a.s2 a.s3,rs])) (RowAt.steady _ _ _) rfl (fun a wc hc hl'=>⟨rfl,?_⟩) ?_;(· (have e:=hl' 25 (of_decide_eq_true (by kernel_rfl));exact⟨e,Ext.refl _⟩))))
  refine AWq.done rfl rfl rfl (fun w5 x5=>?_);simp only[zl,Act.put,zq6,zq7,zq8];intro u2 h2
  all_goals intros
  go_wp2_with fail
  go_ret;exact⟨_,rfl,by rw[HR.out];exact h2,HX2.out.trans x5⟩
end
section
open Go.RowKit
def reqB (m:MsgI):Bool:=decide (m.held.length≤256)&&(zH m.f&&(decide (errX (mayB m.k) (zaj m.k)=0)&&zdP m.held))
def batB (m:MsgI):Bool:=zbY m&&(m.ents.all zJ&&(decide (m.V=cleanL m.V)&&(decide (m.A=cleanL m.A)&&decide (errX (itemsB m.not) (zg verB m.not)=0))))
def zbL (m:MsgI):Bool:=if m.kind=1 then reqB m else if m.kind=2 then batB m else if m.kind=3 then sidB m.r1 m.r2 m.r3 else decide (m.kind=4)&&(decide (1≤m.code)&&decide (m.code≤100))
def reqP (m:MsgI):List FldI:=[fN (zao m.up),fT (zg clB m.f),fT (zaj m.k)]++zdo m.held
def batP (m:MsgI):List FldI:=nameF m.r1 m.r2 m.r3++[fN m.seq,fN (zao m.last)]++(fN m.ents.length::(m.ents.map entF).flatten)++[fT (zg verB (endsL m.V)),fT (zg verB (endsL m.A)),fT (zg verB m.not)]
def zce (m:MsgI):List FldI:=if m.kind=1 then reqP m else if m.kind=2 then batP m else if m.kind=3 then nameF m.r1 m.r2 m.r3 else [fN m.code]
def layB (m:MsgI):Bool:=sidB m.s1 m.s2 m.s3&&(decide (m=zI m)&&zbL m)
def partsF (m:MsgI):List FldI:=fN m.kind::nameF m.s1 m.s2 m.s3++zce m
theorem zdr {ls:List (List FldI)} (h:∀ l∈ls,l≠[]):zav ls=ls.flatten:=by
 unfold zav;rw[if_pos];rw[List.all_eq_true];intro l hl;have:=h l hl;cases l <;> simp_all
theorem zbq {ls:List (List FldI)} (h:[]∈ls):zav ls=[]:=by
 unfold zav;rw[if_neg];rw[List.all_eq_true];intro hh;have:=hh _ h;simp at this
theorem zcS {s:ByteArray} {e:Int} (h:e=0):zR s e=[fT s]:=if_pos h
theorem zcT {s:ByteArray} {e:Int} (h:e≠0):zR s e=[]:=if_neg h
theorem zfk {b:Bool}:okZ b=0↔b=true:=by cases b <;> simp[okZ]
theorem ziH (m:MsgI):zbB m=if reqB m then reqP m else []:=by
 unfold zbB reqB;by_cases h1:256<m.held.length
 ·rw[if_pos h1,show decide (m.held.length≤256)=false from decide_eq_false (by omega)];rfl
 rw[if_neg h1,show decide (m.held.length≤256)=true from decide_eq_true (by omega),Bool.true_and];cases h2:zH m.f with
 | false=>rw[zbq (by rw[zcT (by decide:okZ false≠0)];simp)];rfl
 | true=>
 rw[Bool.true_and,zcS (by decide:okZ true=0)];by_cases h3:errX (mayB m.k) (zaj m.k)=0
 rotate_left
 ·rw[show decide (errX (mayB m.k) (zaj m.k)=0)=false from decide_eq_false h3,zbq (by rw[zcT h3];simp)];rfl
 rw[show decide (errX (mayB m.k) (zaj m.k)=0)=true from decide_eq_true h3,Bool.true_and,zcS h3,zdH h3];unfold zcn;cases h4:zdP m.held with
 | false=>rw[zbq (by simp)];rfl
 | true=>
  rw[if_pos rfl,if_pos rfl,zdr (by
   intro l hl;simp only[List.mem_cons,List.not_mem_nil,or_false] at hl;rcases hl with rfl | rfl | rfl | rfl <;> simp[zdo])]
  simp[reqP,putB]
theorem zmt (m:MsgI):zcl m=if batB m then batP m else []:=by
 unfold zcl batB;cases h1:zbY m with
 | false=>rfl
 | true=>
 rw[if_pos rfl,Bool.true_and];unfold zco;cases h2:m.ents.all zJ with
 | false=>rw[if_neg Bool.false_ne_true,zbq (by simp)];rfl
 | true=>
 rw[if_pos rfl,Bool.true_and];cases h3:decide (m.V=cleanL m.V) with
 | false=>rw[zbq (by rw[zcT (by decide:okZ false≠0)];simp)];rfl
 | true=>
 rw[Bool.true_and,zcS (by decide:okZ true=0)];cases h4:decide (m.A=cleanL m.A) with
 | false=>rw[zbq (by rw[zcT (by decide:okZ false≠0)];simp)];rfl
 | true=>
 rw[Bool.true_and,zcS (by decide:okZ true=0)];by_cases h5:errX (itemsB m.not) (zg verB m.not)=0
 rotate_left
 ·rw[show decide (errX (itemsB m.not) (zg verB m.not)=0)=false from decide_eq_false h5,zbq (by rw[zcT h5];simp)];rfl
 rw[show decide (errX (itemsB m.not) (zg verB m.not)=0)=true from decide_eq_true h5,zcS h5,zdH h5,if_pos rfl,zdr (by
  intro l hl;simp only[List.mem_cons,List.not_mem_nil,or_false] at hl;rcases hl with rfl | rfl | rfl | rfl | rfl <;> simp[nameF])]
 unfold batP;simp[putB]
theorem rest_eq (m:MsgI):zbK m=if zbL m then zce m else []:=by
 unfold zbK zbL zce;by_cases h1:m.kind=1
 ·rw[if_pos h1,if_pos h1,if_pos h1,ziH]
 by_cases h2:m.kind=2
 ·rw[if_neg h1,if_neg h1,if_neg h1,if_pos h2,if_pos h2,if_pos h2,zmt]
 by_cases h3:m.kind=3
 ·rw[if_neg h1,if_neg h1,if_neg h1,if_neg h2,if_neg h2,if_neg h2,if_pos h3,if_pos h3,if_pos h3]
 rw[if_neg h1,if_neg h1,if_neg h1,if_neg h2,if_neg h2,if_neg h2,if_neg h3,if_neg h3,if_neg h3];simp only[Bool.and_eq_true,decide_eq_true_eq]
theorem zls {m:MsgI} (h:zbL m=true):zce m≠[]:=by
 unfold zce
 split
 ·simp[reqP]
 ·split
  ·simp[batP]
  ·split <;> simp[nameF]
theorem zkK (m:MsgI):zdb m=if layB m then partsF m else []:=by
 unfold zdb layB;rw[rest_eq];cases sidB m.s1 m.s2 m.s3 with
 | false=>rfl
 | true=>
 cases decide (m=zI m) with
 | false=>rfl
 | true=>
 cases h:zbL m with
 | false=>rw[Bool.true_and,if_pos rfl,if_neg Bool.false_ne_true,zbq (by simp)];rfl
 | true=>
  have:=zls h;rw[Bool.true_and,Bool.true_and,if_pos rfl,if_pos rfl,if_pos rfl,zdr (by
   intro l hl;simp only[List.mem_cons,List.not_mem_nil,or_false] at hl;rcases hl with rfl | rfl
   ·simp
   ·exact this)]
  unfold partsF;simp
theorem zdp {n:Int} (h:0≤n) (h2:n≤9223372036854775807):(fN n).ok:=⟨Nat.zero_le _,fun _=>h,h2⟩
theorem zhU {s:ByteArray} (h:s.size≤65536):(fT s).ok:=⟨h,fun h=>(by(have h:true=false:=h);cases h),by show(0:Int)≤_;omega⟩
theorem zfm {a b c:Int} (h:sidB a b c=true) (hb:in64 b) (hc:in64 c):∀ f∈nameF a b c,f.ok:=by
 unfold sidB at h;simp only[Bool.and_eq_true,decide_eq_true_eq] at h;unfold in64 at hb hc;intro f hf;simp only[nameF,List.mem_cons,List.not_mem_nil,or_false] at hf;rcases hf with rfl | rfl | rfl
 ·exact zdp (by omega) (by omega)
 ·exact zdp (by omega) (by omega)
 ·exact zdp (by omega) (by omega)
theorem zhS (b:Bool):(fN (zao b)).ok:=by cases b <;> exact zdp (by decide) (by decide)
theorem zgg {l:List PairI} (h:zdP l=true):∀ p∈l,zaP p=true:=by
 intro p hp;obtain⟨k,hk,rfl⟩:=List.mem_iff_getElem.1 hp;unfold zdP at h;rw[List.all_eq_true] at h;have h1:=h k (List.mem_range.2 hk);unfold okAt at h1;rw[List.getElem?_eq_getElem hk] at h1;simp only[Bool.and_eq_true] at h1;exact h1.1
theorem zms {p:PairI} (h:zaP p=true) (h64:zax p.a∧zax p.b):∀ f∈bothF p,f.ok:=by
 unfold zaP zD at h;simp only[Bool.and_eq_true,decide_eq_true_eq] at h;obtain⟨⟨⟨_,x1⟩,⟨_,x2⟩⟩,⟨⟨_,x3⟩,⟨_,x4⟩⟩⟩:=h64;intro f hf;simp only[bothF,List.mem_cons,List.not_mem_nil,or_false] at hf;rcases hf with rfl | rfl | rfl | rfl <;> exact zdp (by omega) (by omega)
theorem zlB {m:MsgI} (hok:MsgOk m) (h:layB m=true):∀ f∈partsF m,f.ok:=by
 unfold layB at h;rw[Bool.and_eq_true,Bool.and_eq_true] at h;obtain⟨h1,-,h3⟩:=h;intro f hf;unfold partsF at hf;rw[List.mem_append,List.mem_cons] at hf;rcases hf with(rfl | hf) | hf
 ·unfold zbL at h3
  refine zdp ?_ hok.kind.2;by_cases k1:m.kind=1
  ·omega
  by_cases k2:m.kind=2
  ·omega
  by_cases k3:m.kind=3
  ·omega
  rw[if_neg k1,if_neg k2,if_neg k3] at h3;simp only[Bool.and_eq_true,decide_eq_true_eq] at h3;omega
 ·exact zfm h1 hok.s.2.1 hok.s.2.2 f hf
 unfold zce at hf;unfold zbL at h3;by_cases k1:m.kind=1
 ·rw[if_pos k1] at hf h3
  unfold reqB at h3;simp only[Bool.and_eq_true,decide_eq_true_eq] at h3;obtain⟨l1,l2,l3,l4⟩:=h3;unfold reqP zdo at hf;simp only[List.mem_append,List.mem_cons,List.not_mem_nil,or_false] at hf;rcases hf with(rfl | rfl | rfl) | rfl | hf
  ·exact zhS _
  ·exact zhU (by have:=zdu l2;omega)
  ·exact zhU (zbg.1 l3).2
  ·exact zdp (by omega) (by omega)
  ·obtain⟨g,hg,hf⟩:=List.mem_flatten.1 hf
   obtain⟨p,hp,rfl⟩:=List.mem_map.1 hg;exact zms (zgg l4 p hp) (hok.heldV p hp) f hf
 rw[if_neg k1] at hf h3;by_cases k2:m.kind=2
 ·rw[if_pos k2] at hf h3
  unfold batB zbY at h3;simp only[Bool.and_eq_true,decide_eq_true_eq] at h3;obtain⟨⟨l1,l2,l3,l4⟩,l5,l6,l7,l8⟩:=h3;have vle:∀ v:List Int,zaA v→(zg verB (endsL v)).size≤65536:=fun v hv=>by
   have:=zb6 verB (endsL v) 18 65 (by decide) (zbU v) (by decide) (fun x hx=>zbd (zbG hv x hx));rw[za9];omega
  unfold batP at hf;simp only[List.mem_append,List.mem_cons,List.not_mem_nil,or_false] at hf;rcases hf with(((hf | rfl | rfl) | rfl | hf) | rfl | rfl | rfl)
  ·exact zfm l1 hok.r.2.1 hok.r.2.2 f hf
  ·exact zdp l2 (by omega)
  ·exact zhS _
  ·exact zdp (by omega) (by omega)
  ·obtain⟨g,hg,hf⟩:=List.mem_flatten.1 hf
   obtain⟨e,he,rfl⟩:=List.mem_map.1 hg;rw[List.all_eq_true] at l5;exact(zg3 (hok.ents e he) (l5 e he)).1 f hf
  ·exact zhU (vle _ hok.V)
  ·exact zhU (vle _ hok.A)
  ·exact zhU (zbg.1 l8).2
 rw[if_neg k2] at hf h3;by_cases k3:m.kind=3
 ·rw[if_pos k3] at hf h3
  exact zfm h3 hok.r.2.1 hok.r.2.2 f hf
 rw[if_neg k3] at hf h3;simp only[Bool.and_eq_true,decide_eq_true_eq] at h3;simp only[List.mem_cons,List.not_mem_nil,or_false] at hf;subst hf;exact zdp (by omega) (by omega)
def zau (m:MsgI):ByteArray:=⟨(encL (partsF m)).toArray⟩
def putM (m:MsgI):ByteArray:=if layB m then(if fszN (zau m)≤65536 then⟨(zaC (encL (partsF m))).toArray⟩ else⟨#[]⟩) else⟨#[]⟩
def putZ (m:MsgI):Int:=if layB m then(if fszN (zau m)≤65536 then 0 else 4) else 2
theorem zmb (m:MsgI) (h:layB m=true) (hs:(zau m).size≤65536):zhR (zau m)=.tuple #[.string (putM m),.int .i64 (putZ m)]:=by
 unfold zhR putM putZ;rw[if_pos h,if_pos h];have e:fszZ (zau m)>65536↔¬ fszN (zau m)≤65536:=by
  unfold fszZ;rw[if_neg (by omega)];by_cases h2:65536<fszN (zau m)
  ·rw[if_pos h2];constructor
   ·intro _;omega
   ·intro _;decide
  ·rw[if_neg h2];constructor
   ·intro h3;omega
   ·intro h3;omega
 by_cases h2:fszN (zau m)≤65536
 ·rw[if_neg (by rw[e];simpa using h2),if_pos h2,if_pos h2];rfl
 ·rw[if_pos (e.2 h2),if_neg h2,if_neg h2]
theorem put_big (m:MsgI) (h:layB m=true) (hs:¬ (zau m).size≤65536):putM m=⟨#[]⟩∧putZ m=4:=by
 unfold putM putZ;have:¬ fszN (zau m)≤65536:=by unfold fszN;omega
 rw[if_pos h,if_pos h,if_neg this,if_neg this];exact⟨rfl,rfl⟩
end
section
open Go.RowKit
attribute [-simp] Tryz.isAgg36 Tryz.sizeOf36
theorem ze7 {l:List FldI} {u:Value} {w:World} (h:RowAt FldI.cells 3 l u w):∃ A c,u=.slice A l.length c:=by
 obtain⟨A,c,e,_⟩:=zr h.1;exact⟨A,c,e⟩
theorem zlP (w:World) (S:SlM) (a:MsgI) (mx:Int) (hm:w.cell? ⟨0,0,none⟩=some (.int .i64 mx)) (ha:MsgAt w S a) (hok:MsgOk a):Calls Tryz.prog 20 #[.agg (a.at S).arr] w (Ret (.tuple #[.string (putM a),.int .i64 (putZ a)]) w):=by
 have HFi:=fun W (hW:Ext w W)=>hid (zme W S a mx (hW.cell hm) (ha.ext hW) hok);have hz:=hid (zy (a.at S));have hL:=zkK a;have hpo:=fun h=>zlB hok (m:=a) h;have hpl:(partsF a).length≠0:=by simp[partsF]
 clear ha hok hm;generalize zdb a=fs at hL HFi;generalize (a.at S).arr=ar at HFi hz⊢;have HBa:=hid (Blk.new w 36 ar);have HX:=hid (Ext.alloc w (.cells ar 36));have la:=HBa.out.lt;cases hb:layB a with
 | false=>
  have HV:Hid (putM a=⟨#[]⟩∧putZ a=2):=by unfold putM putZ Hid;rw[hb];exact⟨rfl,rfl⟩
  rw[hb,if_neg Bool.false_ne_true] at hL;subst hL;clear hb hpo hpl;generalize putM a=pm at HV⊢;generalize putZ a=pz at HV⊢;go_enter Tryz.func20,Tryz.ntmps20;go_wp2_with fail
  simp only[Tryz.isAgg36,Tryz.sizeOf36,Result.andThen,↓reduceIte,za HBa.out 147 hz.out];rw[Oper.upon_value];go_wp2_with fail
  refine((HFi _ HX.out).out).mono ?_;rintro en w2 ⟨u,rfl,hu,x2⟩;have HX2:=hid (HX.out.trans x2);obtain⟨A,c,rfl⟩:=ze7 hu;clear hu x2;go_wp2_with fail
  go_ret2;rw[HV.out.1,HV.out.2];exact⟨rfl,HX2.out⟩
 | true=>
  rw[hb,if_pos rfl] at hL;subst hL;have hpo:=hpo hb;have HLy:=fun W v (h:RowAt FldI.cells 3 (partsF a) v W)=>hid (zgW W v (partsF a) h.1 hpo (by omega));have hbs:(zau a).size=(encL (partsF a)).length:=rfl;have hfp:(encL (partsF a)).length≤65536→zhR (zau a)=.tuple #[.string (putM a),.int .i64 (putZ a)]:=fun h=>zmb a hb h;have hbig:¬ (encL (partsF a)).length≤65536→putM a=⟨#[]⟩∧putZ a=4:=fun h=>put_big a hb h;have hfit:(encL (partsF a)).length≤65536→capL (partsF a)=zau a:=fun h=>zd1 h;have hnf:¬ (encL (partsF a)).length≤65536→capL (partsF a)=⟨#[]⟩:=fun h=>zij h
  have HFL:=fun W b o c s e1 e2 e3 e4 e5=>hid (flay_c W b o c s e1 e2 e3 e4 e5);have d1:(((partsF a).length:Int)==0)=false:=by simpa using hpl
  generalize partsF a=ps at *;clear hpo hpl hb;by_cases h6:(encL ps).length≤65536
  ·have HFP:=hid (hfp h6)
   rw[hfit h6,if_pos h6] at HLy;clear hfp hbig hfit hnf;generalize zau a=bo at HFP HLy hbs;have hbs6:bo.size≤1000000:=by omega
   clear h6 hbs;generalize putM a=pm at HFP⊢;generalize putZ a=pz at HFP⊢;go_enter Tryz.func20,Tryz.ntmps20;go_wp2_with fail
   simp only[Tryz.isAgg36,Tryz.sizeOf36,Result.andThen,↓reduceIte,za HBa.out 147 hz.out];rw[Oper.upon_value];go_wp2_with fail
   refine((HFi _ HX.out).out).mono ?_;rintro en w2 ⟨u,rfl,hu,x2⟩;have HX2:=hid (HX.out.trans x2);obtain⟨A,c,rfl⟩:=ze7 hu;have HU:=hid hu;clear hu x2;go_wp2_with fail
   refine((HLy _ _ HU.out).out).mono ?_;rintro en w3 ⟨rfl,x3⟩;have HX3:=hid (HX2.out.trans x3);clear x3;go_wp2_with fail
   have HB4:=hid (Blk.new w3 9 #[.string bo]);refine((HFL _ _ 0 _ bo HB4.out.lt (by decide) (by decide) (HB4.out.cell (i:=0) rfl) hbs6).out).mono ?_;rintro en w5 ⟨rfl,x5⟩;have HX5:=hid ((HX3.out.alloc' (.cells #[.string bo] 9)).trans x5);rw[HFP.out];clear x5;go_wp2_with fail
   go_ret2;exact⟨rfl,HX5.out⟩
  ·have HV:=hid (hbig h6)
   rw[hnf h6,if_neg h6] at HLy;clear hfp hbig hfit hnf h6 hbs;generalize putM a=pm at HV⊢;generalize putZ a=pz at HV⊢;go_enter Tryz.func20,Tryz.ntmps20;go_wp2_with fail
   simp only[Tryz.isAgg36,Tryz.sizeOf36,Result.andThen,↓reduceIte,za HBa.out 147 hz.out];rw[Oper.upon_value];go_wp2_with fail
   refine((HFi _ HX.out).out).mono ?_;rintro en w2 ⟨u,rfl,hu,x2⟩;have HX2:=hid (HX.out.trans x2);obtain⟨A,c,rfl⟩:=ze7 hu;have HU:=hid hu;clear hu x2;go_wp2_with fail
   refine((HLy _ _ HU.out).out).mono ?_;rintro en w3 ⟨rfl,x3⟩;have HX3:=hid (HX2.out.trans x3);clear x3;go_wp2_with fail
   go_ret2;rw[HV.out.1,HV.out.2];exact⟨rfl,HX3.out⟩
end
section
open Go.RowKit
def zgD (s:ByteArray) (e:Int) (z1 z2:Nat) (s':ByteArray) (e':Int):Prop:=
 ∀ (n1 n2:Nat) rest,e=0→n1<9223372036854775808→n2<9223372036854775808→s.data.toList=(lebL n1++(lebL n2++rest))→z1=n1∧z2=n2∧s'.data.toList=rest∧e'=0
theorem zkp (w:World) (q:Nat) (s:ByteArray) (e:Int) (h:InAt w q s e) (hs:s.size≤1000000):Calls Tryz.prog 122 #[.pointer (some ⟨q,0,none⟩)] w (fun en w'=>∃ (z1 z2:Nat) (s':ByteArray) (e':Int),en=.returned (.agg #[.int .i64 z1,.int .i64 z2])∧z1<9223372036854775808∧z2<9223372036854775808∧Keep (fun g=>g=q) w w'∧InAt w' q s' e'∧s'.size≤s.size∧zgD s e z1 z2 s' e'):=by
 have HN:=fun W (s':ByteArray) (e':Int) (h':InAt W q s' e') (hs':s'.size≤1000000)=>hid (n_c W q s' e' h' hs');have HB0:=hid (Blk.new w 51 #[.int .i64 0,.int .i64 0]);have HK0:=hid (Keep.of_ext (S:=fun g=>g=q) (Ext.alloc w (.cells #[.int .i64 0,.int .i64 0] 51)));have HI0:=hid (h.ext (Ext.alloc w (.cells #[.int .i64 0,.int .i64 0] 51)));have hq:¬ w.heap.size=q:=by have:=h.lt;omega
 have HQ:=hid hq;clear h hq;have hs0:=hs;go_enter Tryz.func122,Tryz.ntmps122;go_wp2_with fail
 generalize w.alloc (.cells #[.int .i64 0,.int .i64 0] 51)=w0 at HI0 HB0 HK0⊢;have HG:Hid (∃ g,g=w.heap.size∧w.heap.size≤g):=⟨_,rfl,Nat.le_refl _⟩
 obtain⟨g,hg,hG⟩:=HG.out;have HG:=hid hG;clear hG;rw[←hg] at HB0 HQ⊢;clear hg;refine((HN _ _ _ HI0.out (by omega)).out).mono ?_;rintro en w1 ⟨z1,s1,e1,rfl,hz1,k1,h1,hs1,r1⟩;have HK1:=hid (HK0.out.trans k1);have HI1:=hid h1;have HB1:=hid (HB0.out.keep k1 HQ.out);have R1:=hid r1;have Hz1:=hid hz1;clear k1 h1 r1 HI0 HB0 HK0 hz1;go_wp2_with fail
 refine((HN _ _ _ HI1.out (by omega)).out).mono ?_;rintro en w2 ⟨z2,s2,e2,rfl,hz2,k2,h2,hs2,r2⟩;have HK2:=hid (HK1.out.trans k2);have HI2:=hid h2;have HB2:=hid (HB1.out.keep k2 HQ.out);have R2:=hid r2;have Hz2:=hid hz2;clear k2 h2 r2 HI1 HB1 HK1 hz2;have RV:Hid (zgD s e z1 z2 s2 e2):=fun n1 n2 rest a0 an1 an2 aa=>by
  obtain⟨bn1,c1,d1⟩:=R1.out n1 _ a0 an1 aa;obtain⟨bn2,c2,d2⟩:=R2.out n2 _ d1 an2 c1;exact⟨bn1,bn2,c2,d2⟩
 have b0:=HB2.out.lt;have c0:=HB2.out.cell (i:=0) (v:=.int .i64 0) rfl;have f0:=HB2.out.frozen 0;have c1:=HB2.out.cell (i:=1) (v:=.int .i64 0) rfl;have f1:=HB2.out.frozen 1;have hsz:s2.size≤s.size:=by omega
 have HSz:=hid hsz;clear hs hs0 hs1 hs2 hsz HN;go_wp2_with fail
 have HBf:=hid ((HB2.out.set 0 (.int .i64 z1)).set 1 (.int .i64 z2));have HIf:=hid ((HI2.out.far (p:=⟨g,0,none⟩) (fun h=>HQ.out h.symm) (.int .i64 z1)).far (p:=⟨g,1,none⟩) (fun h=>HQ.out h.symm) (.int .i64 z2));have HKf:=hid ((HK2.out.setCell (S:=fun g=>g=q) (p:=⟨g,0,none⟩) (.inr HG.out) (.int .i64 z1)).setCell (S:=fun g=>g=q) (p:=⟨g,1,none⟩) (.inr HG.out) (.int .i64 z2));exact bodyPost_ret (results_cell_row rfl _ _ g 51 _ (0,0) _ rfl HBf.out Tryz.underlying51 rfl (show(Tryz.prog.info? 51).map (·.size)=some 2 by kernel_rfl)) rfl ⟨z1,z2,_,_,rfl,Hz1.out,Hz2.out,HKf.out,HIf.out,HSz.out,RV.out⟩
def zbh (s:ByteArray) (e:Int) (z1 z2 z3:Nat) (s':ByteArray) (e':Int):Prop:=
 ∀ (n1 n2 n3:Nat) rest,e=0→n1<9223372036854775808→n2<9223372036854775808→n3<9223372036854775808→s.data.toList=(lebL n1++(lebL n2++(lebL n3++rest)))→z1=n1∧z2=n2∧z3=n3∧s'.data.toList=rest∧e'=0
theorem zkq (w:World) (q:Nat) (s:ByteArray) (e:Int) (h:InAt w q s e) (hs:s.size≤1000000):Calls Tryz.prog 65 #[.pointer (some ⟨q,0,none⟩)] w (fun en w'=>∃ (z1 z2 z3:Nat) (s':ByteArray) (e':Int),en=.returned (.agg #[.int .i64 z1,.int .i64 z2,.int .i64 z3])∧z1<9223372036854775808∧z2<9223372036854775808∧z3<9223372036854775808∧Keep (fun g=>g=q) w w'∧InAt w' q s' e'∧s'.size≤s.size∧zbh s e z1 z2 z3 s' e'):=by
 have HN:=fun W (s':ByteArray) (e':Int) (h':InAt W q s' e') (hs':s'.size≤1000000)=>hid (n_c W q s' e' h' hs');have HB0:=hid (Blk.new w 24 #[.int .i64 0,.int .i64 0,.int .i64 0]);have HK0:=hid (Keep.of_ext (S:=fun g=>g=q) (Ext.alloc w (.cells #[.int .i64 0,.int .i64 0,.int .i64 0] 24)));have HI0:=hid (h.ext (Ext.alloc w (.cells #[.int .i64 0,.int .i64 0,.int .i64 0] 24)));have hq:¬ w.heap.size=q:=by have:=h.lt;omega
 have HQ:=hid hq;clear h hq;have hs0:=hs;go_enter Tryz.func65,Tryz.ntmps65;go_wp2_with fail
 generalize w.alloc (.cells #[.int .i64 0,.int .i64 0,.int .i64 0] 24)=w0 at HI0 HB0 HK0⊢;have HG:Hid (∃ g,g=w.heap.size∧w.heap.size≤g):=⟨_,rfl,Nat.le_refl _⟩
 obtain⟨g,hg,hG⟩:=HG.out;have HG:=hid hG;clear hG;rw[←hg] at HB0 HQ⊢;clear hg;refine((HN _ _ _ HI0.out (by omega)).out).mono ?_;rintro en w1 ⟨z1,s1,e1,rfl,hz1,k1,h1,hs1,r1⟩;have HK1:=hid (HK0.out.trans k1);have HI1:=hid h1;have HB1:=hid (HB0.out.keep k1 HQ.out);have R1:=hid r1;have Hz1:=hid hz1;clear k1 h1 r1 HI0 HB0 HK0 hz1;go_wp2_with fail
 refine((HN _ _ _ HI1.out (by omega)).out).mono ?_;rintro en w2 ⟨z2,s2,e2,rfl,hz2,k2,h2,hs2,r2⟩;have HK2:=hid (HK1.out.trans k2);have HI2:=hid h2;have HB2:=hid (HB1.out.keep k2 HQ.out);have R2:=hid r2;have Hz2:=hid hz2;clear k2 h2 r2 HI1 HB1 HK1 hz2;go_wp2_with fail
 refine((HN _ _ _ HI2.out (by omega)).out).mono ?_;rintro en w3 ⟨z3,s3,e3,rfl,hz3,k3,h3,hs3,r3⟩;have HK3:=hid (HK2.out.trans k3);have HI3:=hid h3;have HB3:=hid (HB2.out.keep k3 HQ.out);have R3:=hid r3;have Hz3:=hid hz3;clear k3 h3 r3 HI2 HB2 HK2 hz3;have RV:Hid (zbh s e z1 z2 z3 s3 e3):=fun n1 n2 n3 rest a0 an1 an2 an3 aa=>by
  obtain⟨bn1,c1,d1⟩:=R1.out n1 _ a0 an1 aa;obtain⟨bn2,c2,d2⟩:=R2.out n2 _ d1 an2 c1;obtain⟨bn3,c3,d3⟩:=R3.out n3 _ d2 an3 c2;exact⟨bn1,bn2,bn3,c3,d3⟩
 have b0:=HB3.out.lt;have c0:=HB3.out.cell (i:=0) (v:=.int .i64 0) rfl;have f0:=HB3.out.frozen 0;have c1:=HB3.out.cell (i:=1) (v:=.int .i64 0) rfl;have f1:=HB3.out.frozen 1;have c2:=HB3.out.cell (i:=2) (v:=.int .i64 0) rfl;have f2:=HB3.out.frozen 2;have hsz:s3.size≤s.size:=by omega
 have HSz:=hid hsz;clear hs hs0 hs1 hs2 hs3 hsz HN;go_wp2_with fail
 have HBf:=hid (((HB3.out.set 0 (.int .i64 z1)).set 1 (.int .i64 z2)).set 2 (.int .i64 z3));have HIf:=hid (((HI3.out.far (p:=⟨g,0,none⟩) (fun h=>HQ.out h.symm) (.int .i64 z1)).far (p:=⟨g,1,none⟩) (fun h=>HQ.out h.symm) (.int .i64 z2)).far (p:=⟨g,2,none⟩) (fun h=>HQ.out h.symm) (.int .i64 z3));have HKf:=hid (((HK3.out.setCell (S:=fun g=>g=q) (p:=⟨g,0,none⟩) (.inr HG.out) (.int .i64 z1)).setCell (S:=fun g=>g=q) (p:=⟨g,1,none⟩) (.inr HG.out) (.int .i64 z2)).setCell (S:=fun g=>g=q) (p:=⟨g,2,none⟩) (.inr HG.out) (.int .i64 z3))
 exact bodyPost_ret (results_cell_row rfl _ _ g 24 _ (0,0) _ rfl HBf.out Tryz.underlying24 rfl (show(Tryz.prog.info? 24).map (·.size)=some 3 by kernel_rfl)) rfl ⟨z1,z2,z3,_,_,rfl,Hz1.out,Hz2.out,Hz3.out,HKf.out,HIf.out,HSz.out,RV.out⟩
def zfQ (s:ByteArray) (e:Int) (z1 z2 z3 z4:Nat) (s':ByteArray) (e':Int):Prop:=
 ∀ (n1 n2 n3 n4:Nat) rest,e=0→n1<9223372036854775808→n2<9223372036854775808→n3<9223372036854775808→n4<9223372036854775808→s.data.toList=(lebL n1++(lebL n2++(lebL n3++(lebL n4++rest))))→z1=n1∧z2=n2∧z3=n3∧z4=n4∧s'.data.toList=rest∧e'=0
theorem zfn (w:World) (q:Nat) (s:ByteArray) (e:Int) (h:InAt w q s e) (hs:s.size≤1000000):Calls Tryz.prog 69 #[.pointer (some ⟨q,0,none⟩)] w (fun en w'=>∃ (z1 z2 z3 z4:Nat) (s':ByteArray) (e':Int),en=.returned (.agg #[.int .i64 z1,.int .i64 z2,.int .i64 z3,.int .i64 z4])∧z1<9223372036854775808∧z2<9223372036854775808∧z3<9223372036854775808∧z4<9223372036854775808∧Keep (fun g=>g=q) w w'∧InAt w' q s' e'∧s'.size≤s.size∧zfQ s e z1 z2 z3 z4 s' e'):=by
 have HN:=fun W (s':ByteArray) (e':Int) (h':InAt W q s' e') (hs':s'.size≤1000000)=>hid (zkp W q s' e' h' hs');have HB0:=hid (Blk.new w 59 #[.int .i64 0,.int .i64 0,.int .i64 0,.int .i64 0]);have HK0:=hid (Keep.of_ext (S:=fun g=>g=q) (Ext.alloc w (.cells #[.int .i64 0,.int .i64 0,.int .i64 0,.int .i64 0] 59)));have HI0:=hid (h.ext (Ext.alloc w (.cells #[.int .i64 0,.int .i64 0,.int .i64 0,.int .i64 0] 59)));have hq:¬ w.heap.size=q:=by have:=h.lt;omega
 have HQ:=hid hq;clear h hq;have hs0:=hs;go_enter Tryz.func69,Tryz.ntmps69;go_wp2_with fail
 generalize w.alloc (.cells #[.int .i64 0,.int .i64 0,.int .i64 0,.int .i64 0] 59)=w0 at HI0 HB0 HK0⊢;have HG:Hid (∃ g,g=w.heap.size∧w.heap.size≤g):=⟨_,rfl,Nat.le_refl _⟩
 obtain⟨g,hg,hG⟩:=HG.out;have HG:=hid hG;clear hG;rw[←hg] at HB0 HQ⊢;clear hg;refine((HN _ _ _ HI0.out (by omega)).out).mono ?_;rintro en w1 ⟨z1,z2,s1,e1,rfl,hz1,hz2,k1,h1,hs1,r1⟩;have HK1:=hid (HK0.out.trans k1);have HI1:=hid h1;have HB1:=hid (HB0.out.keep k1 HQ.out);have R1:=hid r1;have Hz1:=hid hz1;have Hz2:=hid hz2;clear k1 h1 r1 HI0 HB0 HK0 hz1 hz2;go_wp2_with fail
 refine((HN _ _ _ HI1.out (by omega)).out).mono ?_;rintro en w2 ⟨z3,z4,s2,e2,rfl,hz3,hz4,k2,h2,hs2,r2⟩;have HK2:=hid (HK1.out.trans k2);have HI2:=hid h2;have HB2:=hid (HB1.out.keep k2 HQ.out);have R2:=hid r2;have Hz3:=hid hz3;have Hz4:=hid hz4;clear k2 h2 r2 HI1 HB1 HK1 hz3 hz4;have RV:Hid (zfQ s e z1 z2 z3 z4 s2 e2):=fun n1 n2 n3 n4 rest a0 an1 an2 an3 an4 aa=>by
  obtain⟨bn1,bn2,c1,d1⟩:=R1.out n1 n2 _ a0 an1 an2 aa;obtain⟨bn3,bn4,c2,d2⟩:=R2.out n3 n4 _ d1 an3 an4 c1;exact⟨bn1,bn2,bn3,bn4,c2,d2⟩
 have b0:=HB2.out.lt;have c0:=HB2.out.cell (i:=0) (v:=.int .i64 0) rfl;have f0:=HB2.out.frozen 0;have c1:=HB2.out.cell (i:=1) (v:=.int .i64 0) rfl;have f1:=HB2.out.frozen 1;have c2:=HB2.out.cell (i:=2) (v:=.int .i64 0) rfl;have f2:=HB2.out.frozen 2;have c3:=HB2.out.cell (i:=3) (v:=.int .i64 0) rfl;have f3:=HB2.out.frozen 3;have hsz:s2.size≤s.size:=by omega
 have HSz:=hid hsz;clear hs hs0 hs1 hs2 hsz HN;go_wp2_with fail
 have HBf:=hid ((((HB2.out.set 0 (.int .i64 z1)).set 1 (.int .i64 z2)).set 2 (.int .i64 z3)).set 3 (.int .i64 z4));have HIf:=hid ((((HI2.out.far (p:=⟨g,0,none⟩) (fun h=>HQ.out h.symm) (.int .i64 z1)).far (p:=⟨g,1,none⟩) (fun h=>HQ.out h.symm) (.int .i64 z2)).far (p:=⟨g,2,none⟩) (fun h=>HQ.out h.symm) (.int .i64 z3)).far (p:=⟨g,3,none⟩) (fun h=>HQ.out h.symm) (.int .i64 z4))
 have HKf:=hid ((((HK2.out.setCell (S:=fun g=>g=q) (p:=⟨g,0,none⟩) (.inr HG.out) (.int .i64 z1)).setCell (S:=fun g=>g=q) (p:=⟨g,1,none⟩) (.inr HG.out) (.int .i64 z2)).setCell (S:=fun g=>g=q) (p:=⟨g,2,none⟩) (.inr HG.out) (.int .i64 z3)).setCell (S:=fun g=>g=q) (p:=⟨g,3,none⟩) (.inr HG.out) (.int .i64 z4));exact bodyPost_ret (results_cell_row rfl _ _ g 59 _ (0,0) _ rfl HBf.out Tryz.underlying59 rfl (show(Tryz.prog.info? 59).map (·.size)=some 4 by kernel_rfl)) rfl ⟨z1,z2,z3,z4,_,_,rfl,Hz1.out,Hz2.out,Hz3.out,Hz4.out,HKf.out,HIf.out,HSz.out,RV.out⟩
end
end Go.Proofs.YtofjpdgojoppbaaGreatDoor
