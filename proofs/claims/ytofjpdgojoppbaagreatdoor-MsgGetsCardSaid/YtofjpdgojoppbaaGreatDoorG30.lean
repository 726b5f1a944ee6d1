/-
  Of the claim's proof: MgH.
-/
import Derived.Test.YtofjpdgojoppbaaGreatDoorG02
import Derived.Test.YtofjpdgojoppbaaGreatDoorG08
import Derived.Test.YtofjpdgojoppbaaGreatDoorG15
import Derived.Test.YtofjpdgojoppbaaGreatDoorG28
set_option maxRecDepth 100000
set_option maxHeartbeats 16000000
set_option linter.unusedVariables false
set_option linter.unusedSimpArgs false
namespace Go.Proofs.YtofjpdgojoppbaaGreatDoor
open Go.RowKit
attribute [-simp] Tryz.isAgg36 Tryz.sizeOf36 Tryz.isAgg33 Tryz.sizeOf33
def zQ (m:MsgI):MsgI:=⟨m.kind,m.s1,m.s2,m.s3,if m.kind=2∨m.kind=3 then m.r1 else 0,if m.kind=2∨m.kind=3 then m.r2 else 0,if m.kind=2∨m.kind=3 then m.r3 else 0,
 if m.kind=1 then m.up else false,if m.kind=1 then m.f else [],if m.kind=1 then m.k else⟨[],[]⟩,if m.kind=1 then m.held else [],
 if m.kind=2 then m.seq else 0,if m.kind=2 then m.last else false,if m.kind=2 then m.ents else [],if m.kind=2 then m.V else vec0,if m.kind=2 then m.A else vec0,if m.kind=2 then m.not else [],
 if m.kind=4 then m.code else 0,by split;exact m.hV;simp[vec0],by split;exact m.hA;simp[vec0]⟩
def zak (m:MsgI) (S:SlM):SlM:=⟨if m.kind=1 then S.f else nilS,if m.kind=1 then S.k1 else nilS,if m.kind=1 then S.k2 else nilS,if m.kind=1 then S.held else nilS,if m.kind=2 then S.ents else nilS,if m.kind=2 then S.not else nilS⟩
theorem only_at {w:World} {S:SlM} {m:MsgI} (h:MsgAt w S m):MsgAt w (zak m S) (zQ m):=by
 refine⟨?_,?_,?_,?_,?_⟩
 ·unfold zak zQ;dsimp only;split;exact h.f;exact Sl.nil w 3
 ·unfold zak zQ;dsimp only;split;exact h.k;exact⟨FragsAt.nil w,Sl.nil w 67⟩
 ·unfold zak zQ;dsimp only;split;exact h.held;exact Sl.nil w 4
 ·unfold zak zQ;dsimp only;split;exact h.ents;exact Sl.nil w 21
 ·unfold zak zQ;dsimp only;split;exact h.not;exact Sl.nil w 2
def zO (m:MsgI):MsgC:=⟨m.kind,m.s1,m.s2,m.s3,0,0,0,false,nilS,nilS,nilS,nilS,0,false,nilS,vec0,vec0,nilS,0,by simp[vec0],by simp[vec0]⟩
theorem zcn (m:MsgI):((((Tryz.zeroCells36.setIfInBounds 0 (.int .i64 m.kind)).setIfInBounds 1 (.int .i64 m.s1)).setIfInBounds 2 (.int .i64 m.s2)).setIfInBounds 3 (.int .i64 m.s3))=(zO m).arr:=by kernel_rfl
theorem zaH:Tryz.zeroCells36=msgZ.arr:=by kernel_rfl
theorem zdp (a b:MsgC) (j:Nat):a.arr[j]? = b.arr[j]? ∨ (j<15∧a.head[j]? ≠ b.head[j]?)∨(15≤j∧j<80∧a.V≠b.V)∨(80≤j∧j<145∧a.A≠b.A)∨(145≤j∧([a.not.val,.int .i64 a.code]:List Value)[j-145]? ≠ ([b.not.val,.int .i64 b.code]:List Value)[j-145]?):=by
 by_cases h1:j<15
 ·rw[zT a j h1,zT b j h1]
  by_cases h:a.head[j]? = b.head[j]?
  ·exact .inl h
  ·exact .inr (.inl ⟨h1,h⟩)
 ·by_cases h2:j<80
  ·by_cases h:a.V=b.V
   ·obtain⟨v,hv⟩:∃ v,(intsV a.V)[j-15]? = some v:=⟨_,List.getElem?_eq_getElem (by rw[zR,a.hV];omega)⟩
    have e1:=zbJ a (j-15) v hv;have e2:=zbJ b (j-15) v (by rw[←h];exact hv);rw[show 15+(j-15)=j by omega] at e1 e2;exact .inl (e1.trans e2.symm)
   ·exact .inr (.inr (.inl ⟨by omega,h2,h⟩))
  ·by_cases h3:j<145
   ·by_cases h:a.A=b.A
    ·obtain⟨v,hv⟩:∃ v,(intsV a.A)[j-80]? = some v:=⟨_,List.getElem?_eq_getElem (by rw[zR,a.hA];omega)⟩
     have e1:=zbK a (j-80) v hv;have e2:=zbK b (j-80) v (by rw[←h];exact hv);rw[show 80+(j-80)=j by omega] at e1 e2;exact .inl (e1.trans e2.symm)
    ·exact .inr (.inr (.inr (.inl ⟨by omega,h3,h⟩)))
   ·have e1:=zab a (j-145)
    have e2:=zab b (j-145);rw[show 145+(j-145)=j by omega] at e1 e2;rw[e1,e2];by_cases h:([a.not.val,.int .i64 a.code]:List Value)[j-145]? = ([b.not.val,.int .i64 b.code]:List Value)[j-145]?
    ·exact .inl h
    ·exact .inr (.inr (.inr (.inr ⟨by omega,h⟩)))
theorem zW {S:Nat→Prop} {w w':World} (k:Keep S w w') {b o:Nat} {v:Value} (hb:b<w.heap.size) (hs:¬ S b) (h:w.cell? ⟨b,o,none⟩=some v):w'.cell? ⟨b,o,none⟩=some v:=by
 have hk:=k.block b hb hs;unfold World.cell? at h⊢;rw[hk];exact h
theorem only1_c (w:World) (S:SlM) (m:MsgI) (ek:m.kind=1):Calls Tryz.prog 102 #[.agg (m.at S).arr] w (Ret (.agg ((zQ m).at (zak m S)).arr) w):=by
 have d1:(m.kind==1)=true:=by rw[ek];decide
 have d2:(m.kind==2)=false:=by rw[ek];decide
 have d3:(m.kind==3)=false:=by rw[ek];decide
 have d4:(m.kind==4)=false:=by rw[ek];decide
 have HEk:=hid ek;clear ek;have HA:=hid (zT (m.at S));have HAE:=hid (zab (m.at S));have hz:=hid (zJ (m.at S));have HAV:=hid (fun j v (h:(vecV m.V)[j]? = some v)=>zbJ (m.at S) j v (by simpa[vecV,intsV,MsgI.at] using h));have HAA:=hid (fun j v (h:(vecV m.A)[j]? = some v)=>zbK (m.at S) j v (by simpa[vecV,intsV,MsgI.at] using h));generalize (m.at S).arr=ar at HA hz HAE HAV HAA⊢;have HBa:=hid (Blk.new w 36 ar);obtain⟨⟨af1,af2,af3⟩,⟨ax1,ax2,ax3⟩,⟨ay1,ay2,ay3⟩,⟨ah1,ah2,ah3⟩,⟨ae1,ae2,ae3⟩,⟨an1,an2,an3⟩⟩:=S;have a0:ar[0]? = some (.int .i64 m.kind):=HA.out 0 (by omega)
 have a1:ar[1]? = some (.int .i64 m.s1):=HA.out 1 (by omega);have a2:ar[2]? = some (.int .i64 m.s2):=HA.out 2 (by omega);have a3:ar[3]? = some (.int .i64 m.s3):=HA.out 3 (by omega);have HZ:=hid (zJ msgZ);have HZ1:=hid (zan msgZ);have HP:=hid (zJ (zO m));have HP1:=hid (zan (zO m));obtain⟨X,hXe⟩:∃ X:MsgC,(zQ m).at (zak m ⟨⟨af1,af2,af3⟩,⟨ax1,ax2,ax3⟩,⟨ay1,ay2,ay3⟩,⟨ah1,ah2,ah3⟩,⟨ae1,ae2,ae3⟩,⟨an1,an2,an3⟩⟩)=X:=⟨_,rfl⟩
 have HDf:=hid (zdp (zO m) X);have HT:=hid (zT X);have HTE:=hid (zab X);have HTs:=hid (zJ X);have HT1:=hid (zan X);have HTV:=hid (zbJ X);have HTA:=hid (zbK X);have HXE:=hid hXe;rw[hXe];clear hXe;generalize hte:X.arr=t at HDf HT HTE HTs HT1 HTV HTA⊢;have Hte:=hid hte;clear hte;go_enter Tryz.func102,Tryz.ntmps102;go_wp2_with fail
 simp only[Tryz.sizeOf33,Result.andThen];rw[Oper.upon_value,zcn];generalize hp0:(zO m).arr=p at HP HP1 HDf⊢;have Hp0:=hid hp0;clear hp0;go_wp2_with fail
 rw[zaH];have HB3:=hid (Blk.new ((w.alloc (.cells ar 36)).alloc (.cells msgZ.arr 36)) 36 msgZ.arr);rw[World.size_alloc,World.size_alloc] at HB3;simp only[Tryz.sizeOf36,Result.andThen,↓reduceIte,zg HB3.out (by rw[HP.out];exact zK) (by rw[HP.out,HZ.out]) HP1.out,HP.out];rw[Oper.upon_skip];have hset:=World.setRow_alloc_new ((w.alloc (.cells ar 36)).alloc (.cells msgZ.arr 36)) msgZ.arr p 36;rw[World.size_alloc,World.size_alloc] at hset;rw[hset];clear hset HB3;have hX:=((Ext.alloc w (.cells ar 36)).alloc' (.cells msgZ.arr 36)).alloc' (.cells p 36);have hB1:=(HBa.out.alloc (.cells msgZ.arr 36)).alloc (.cells p 36)
 have hB2:=(Blk.new (w.alloc (.cells ar 36)) 36 msgZ.arr).alloc (.cells p 36);have hB3:=Blk.new ((w.alloc (.cells ar 36)).alloc (.cells msgZ.arr 36)) 36 p;rw[World.size_alloc] at hB2;rw[World.size_alloc,World.size_alloc] at hB3;generalize ((w.alloc (.cells ar 36)).alloc (.cells msgZ.arr 36)).alloc (.cells p 36)=w3 at hX hB1 hB2 hB3⊢;have HX3:=hid hX;have HB1:=hid hB1;have HB2:=hid hB2;have HB3:=hid hB3;clear hX hB1 hB2 hB3 HBa;obtain⟨q1,hq1⟩:∃ q,q=w.heap.size:=⟨_,rfl⟩
 rw[←hq1] at HB1 HB2 HB3⊢;have hqw:w.heap.size≤q1:=by omega
 have HW:=hid hqw;clear hq1 hqw;dsimp only[Act.put];have c0:=HB1.out.cell a0;have l1:=HB1.out.lt;have l3:=HB3.out.lt;have hn13:q1≠q1+1+1:=by omega
 have a7:ar[7]? = some (.bool m.up):=HA.out 7 (by omega);have t7:t[7]? = some (.bool m.up):=by rw[HT.out 7 (by omega),←HXE.out];simp[MsgC.head,MsgI.at,zQ,zak,HEk.out,SlV.val,zO,nilS]
 have c7:=HB1.out.cell a7;have a8:ar[8]? = some (.slice af1 af2 af3):=HA.out 8 (by omega);have t8:t[8]? = some (.slice af1 af2 af3):=by rw[HT.out 8 (by omega),←HXE.out];simp[MsgC.head,MsgI.at,zQ,zak,HEk.out,SlV.val,zO,nilS]
 have c8:=HB1.out.cell a8;have a9:ar[9]? = some (.slice ax1 ax2 ax3):=HA.out 9 (by omega);have t9:t[9]? = some (.slice ax1 ax2 ax3):=by rw[HT.out 9 (by omega),←HXE.out];simp[MsgC.head,MsgI.at,zQ,zak,HEk.out,SlV.val,zO,nilS]
 have c9:=HB1.out.cell a9;have a10:ar[10]? = some (.slice ay1 ay2 ay3):=HA.out 10 (by omega);have t10:t[10]? = some (.slice ay1 ay2 ay3):=by rw[HT.out 10 (by omega),←HXE.out];simp[MsgC.head,MsgI.at,zQ,zak,HEk.out,SlV.val,zO,nilS]
 have c10:=HB1.out.cell a10;have a11:ar[11]? = some (.slice ah1 ah2 ah3):=HA.out 11 (by omega);have t11:t[11]? = some (.slice ah1 ah2 ah3):=by rw[HT.out 11 (by omega),←HXE.out];simp[MsgC.head,MsgI.at,zQ,zak,HEk.out,SlV.val,zO,nilS]
 have c11:=HB1.out.cell a11;go_wp2_with fail
 refine zba (relC (q1+1+1) 36 p t) (facC w3 (q1+1+1) 36 p t) (pre:=?pre3) (z:=?z3) ?hpre3 ?hz3 (facC.steady _ _ _ _ _) (facC.start HB3.out) (by kernel_rfl) (by kernel_rfl) (by kernel_rfl) (by kernel_rfl) ?_
 case hpre3=>(simp only[List.dropLast_cons_cons,List.dropLast_singleton];first | done | exact rfl)
 case hz3=>(simp only[List.getLast?_cons_cons,List.getLast?_singleton];first | done | exact rfl)
 repeat (first
  | (refine AWe.valE rfl rfl rfl rfl ?_;apply Exists.intro;refine And.intro (fun wc hc=>?_) ?_;(· (have r7:=zW hc.1 l1 hn13 c7;have r8:=zW hc.1 l1 hn13 c8;have r9:=zW hc.1 l1 hn13 c9;have r10:=zW hc.1 l1 hn13 c10;have r11:=zW hc.1 l1 hn13 c11;have lw:=Nat.lt_of_lt_of_le l1 hc.1.size;clear hc;go_simp;dsimp only[Gives];exact⟨rfl,rfl⟩));simp only[Act.put,zq6,zq7,zq8])
  | (refine AWe.eff (setC (q1+1+1) 36 p t 7 1) (setC.steady _ _ _ _ _ _) rfl rfl rfl rfl (fun wc hc=>?_) ?_;(· (obtain⟨c9,h9,b9⟩:=hc.2;have k:=zat (o:=7) (vs:=[Value.bool m.up]) h9 b9 (by rw[HP.out];show 7+1≤147;omega) (fun j hj=>by(have:j=0:=by simpa using hj);subst this;exact t7.symm);exact zbp (vs:=#[Value.bool m.up]) rfl rfl rfl rfl h9 (by kernel_rfl) (by rw[b9.1,HP.out];show 7+1≤147;omega) (fun u hu=>by simp at hu;subst hu;rfl) ⟨k.1,k.2⟩)))
  | (refine AWe.eff (setC (q1+1+1) 36 p t 8 1) (setC.steady _ _ _ _ _ _) rfl rfl rfl rfl (fun wc hc=>?_) ?_;(· (obtain⟨c9,h9,b9⟩:=hc.2;have k:=zat (o:=8) (vs:=[Value.slice af1 af2 af3]) h9 b9 (by rw[HP.out];show 8+1≤147;omega) (fun j hj=>by(have:j=0:=by simpa using hj);subst this;exact t8.symm);exact zbp (vs:=#[Value.slice af1 af2 af3]) rfl rfl rfl rfl h9 (by kernel_rfl) (by rw[b9.1,HP.out];show 8+1≤147;omega) (fun u hu=>by simp at hu;subst hu;rfl) ⟨k.1,k.2⟩)))
  | (refine AWe.eff (setC (q1+1+1) 36 p t 9 2) (setC.steady _ _ _ _ _ _) rfl rfl rfl rfl (fun wc hc=>?_) ?_;(· (obtain⟨c9,h9,b9⟩:=hc.2;have k:=zat (o:=9) (vs:=[Value.slice ax1 ax2 ax3,Value.slice ay1 ay2 ay3]) h9 b9 (by rw[HP.out];show 9+2≤147;omega) (fun j hj=>by rcases j with _ | _ | j;exact t9.symm;exact t10.symm;(simp at hj;try omega));exact zbp (vs:=#[Value.slice ax1 ax2 ax3,Value.slice ay1 ay2 ay3]) rfl rfl rfl rfl h9 (by kernel_rfl) (by rw[b9.1,HP.out];show 9+2≤147;omega) (fun u hu=>by simp at hu;rcases hu with rfl | rfl <;> rfl) ⟨k.1,k.2⟩))))
 refine AWe.last rfl rfl rfl (fun w9 x9 hfin=>?_);simp only[zo,Act.put,zq6,zq7,zq8];obtain⟨k9,c9,h9,b9⟩:=x9;obtain⟨v9,hv9⟩:∃ v,c9[11]? = some v:=⟨_,Array.getElem?_eq_getElem (by rw[b9.1,HP.out];omega)⟩
 have r9:=h9.cell hv9;have f9:=h9.frozen 11;have l9:=h9.lt;have ks:=zat (o:=11) (vs:=[Value.slice ah1 ah2 ah3]) h9 b9 (by rw[HP.out];show 11+1≤147;omega) (fun j hj=>by(have:j=0:=by simpa using hj);subst this;exact t11.symm);have HKs:=hid ks;have HBt:Hid (Blk (w9.setCell ⟨q1+1+1,11,none⟩ (.slice ah1 ah2 ah3)) (q1+1+1) 36 t):=by
  have st:=fun o n (h:setC (q1+1+1) 36 p t o n w9)=>setC.steady _ _ _ _ o n _ _ HKs.out.2 h;obtain⟨y,hy,by_,_⟩:=HKs.out.2.2 c9 h9 b9;refine setC.all (p:=p) (by rw[HP.out,HTs.out]) [(7,1),(8,1),(9,2),(11,1)] ⟨y,hy,by_⟩ (fun x hx=>by
   simp only[List.mem_cons,List.not_mem_nil,or_false] at hx;rcases hx with rfl | rfl | rfl | rfl
   ·exact st _ _ hfin.1.1.2
   ·exact st _ _ hfin.1.2
   ·exact st _ _ hfin.2
   ·exact HKs.out.1)
   (fun j=>by
   rcases HDf.out j with h | ⟨h1,h2⟩ | ⟨h1,h2,h3⟩ | ⟨h1,h2,h3⟩ | ⟨h1,h2⟩
   ·exact .inl h
   ·right
    rw[←HXE.out] at h2;rcases j with _ | _ | _ | _ | _ | _ | _ | _ | _ | _ | _ | _ | _ | _ | _ | j
    all_goals first
     | (exfalso;apply h2;simp[MsgC.head,MsgI.at,zQ,zak,HEk.out,zO];done)
     | (simp only[List.mem_cons,List.not_mem_nil,or_false,exists_eq_or_imp,exists_eq_left];omega)
   ·rw[←HXE.out] at h3
    first
     | (exfalso;apply h3;simp[MsgI.at,zQ,HEk.out,zO];done)
     | (right;simp only[List.mem_cons,List.not_mem_nil,or_false,exists_eq_or_imp,exists_eq_left];omega)
   ·rw[←HXE.out] at h3
    first
     | (exfalso;apply h3;simp[MsgI.at,zQ,HEk.out,zO];done)
     | (right;simp only[List.mem_cons,List.not_mem_nil,or_false,exists_eq_or_imp,exists_eq_left];omega)
   ·rw[←HXE.out] at h2
    generalize hjj:j-145=i at h2;rcases i with _ | _ | i
    all_goals first
     | (exfalso;apply h2;simp[MsgI.at,zQ,zak,HEk.out,zO];done)
     | (right;simp only[List.mem_cons,List.not_mem_nil,or_false,exists_eq_or_imp,exists_eq_left];omega))
 have HXt:=hid (((k9.trans HKs.out.2.1).toExt HX3.out (fun g hg=>by subst hg;have:=HW.out;omega):Ext w (w9.setCell ⟨q1+1+1,11,none⟩ (.slice ah1 ah2 ah3))));have HB2t:=hid (HB2.out.keep (k9.trans HKs.out.2.1) (show ¬ (q1+1=q1+1+1) by omega):Blk (w9.setCell ⟨q1+1+1,11,none⟩ (.slice ah1 ah2 ah3)) (q1+1) 36 msgZ.arr);have r0:=zW k9 l1 hn13 c0;have lw:=Nat.lt_of_lt_of_le l1 k9.size;clear HKs ks k9 h9 b9 hfin hv9 c7 c8 c10 c11;go_wp2_with fail
 generalize w9.setCell ⟨q1+1+1,11,none⟩ (.slice ah1 ah2 ah3)=wt at HBt HXt HB2t⊢;have lt:=HBt.out.lt;go_wp2_with fail
 simp only[Tryz.isAgg36,Tryz.sizeOf36,Result.andThen,↓reduceIte,za HBt.out 147 HTs.out];rw[Oper.upon_value];go_wp2_with fail
 simp only[Tryz.sizeOf36,Result.andThen,↓reduceIte,zg HB2t.out (by rw[HTs.out];exact zK) (by rw[HTs.out,HZ.out]) HT1.out,HTs.out];rw[Oper.upon_skip];have hB5:=HB2t.out.setRow t;have hE5:=(Keep.setRow (S:=fun q=>q=q1+1) (Keep.refl _ _) (.inl rfl) t).toExt HXt.out (fun g hg=>by subst hg;have:=HW.out;omega);have HB5:=hid hB5;have HE5:=hid hE5;clear hB5 hE5;dsimp only[Act.put];go_wp2_with fail
 exact bodyPost_ret (results_cell_row rfl _ _ (q1+1) 36 _ (0,0) _ rfl HB5.out Tryz.underlying36 rfl (by rw[HTs.out];exact zK)) rfl ⟨rfl,HE5.out⟩
theorem only2_c (w:World) (S:SlM) (m:MsgI) (ek:m.kind=2):Calls Tryz.prog 102 #[.agg (m.at S).arr] w (Ret (.agg ((zQ m).at (zak m S)).arr) w):=by
 have d1:(m.kind==1)=false:=by rw[ek];decide
 have d2:(m.kind==2)=true:=by rw[ek];decide
 have d3:(m.kind==3)=false:=by rw[ek];decide
 have d4:(m.kind==4)=false:=by rw[ek];decide
 have HEk:=hid ek;clear ek;have HA:=hid (zT (m.at S));have HAE:=hid (zab (m.at S));have hz:=hid (zJ (m.at S));have HAV:=hid (fun j v (h:(vecV m.V)[j]? = some v)=>zbJ (m.at S) j v (by simpa[vecV,intsV,MsgI.at] using h));have HAA:=hid (fun j v (h:(vecV m.A)[j]? = some v)=>zbK (m.at S) j v (by simpa[vecV,intsV,MsgI.at] using h));generalize (m.at S).arr=ar at HA hz HAE HAV HAA⊢;have HBa:=hid (Blk.new w 36 ar);obtain⟨⟨af1,af2,af3⟩,⟨ax1,ax2,ax3⟩,⟨ay1,ay2,ay3⟩,⟨ah1,ah2,ah3⟩,⟨ae1,ae2,ae3⟩,⟨an1,an2,an3⟩⟩:=S;have a0:ar[0]? = some (.int .i64 m.kind):=HA.out 0 (by omega)
 have a1:ar[1]? = some (.int .i64 m.s1):=HA.out 1 (by omega);have a2:ar[2]? = some (.int .i64 m.s2):=HA.out 2 (by omega);have a3:ar[3]? = some (.int .i64 m.s3):=HA.out 3 (by omega);have HZ:=hid (zJ msgZ);have HZ1:=hid (zan msgZ);have HP:=hid (zJ (zO m));have HP1:=hid (zan (zO m));obtain⟨X,hXe⟩:∃ X:MsgC,(zQ m).at (zak m ⟨⟨af1,af2,af3⟩,⟨ax1,ax2,ax3⟩,⟨ay1,ay2,ay3⟩,⟨ah1,ah2,ah3⟩,⟨ae1,ae2,ae3⟩,⟨an1,an2,an3⟩⟩)=X:=⟨_,rfl⟩
 have HDf:=hid (zdp (zO m) X);have HT:=hid (zT X);have HTE:=hid (zab X);have HTs:=hid (zJ X);have HT1:=hid (zan X);have HTV:=hid (zbJ X);have HTA:=hid (zbK X);have HXE:=hid hXe;rw[hXe];clear hXe;generalize hte:X.arr=t at HDf HT HTE HTs HT1 HTV HTA⊢;have Hte:=hid hte;clear hte;go_enter Tryz.func102,Tryz.ntmps102;go_wp2_with fail
 simp only[Tryz.sizeOf33,Result.andThen];rw[Oper.upon_value,zcn];generalize hp0:(zO m).arr=p at HP HP1 HDf⊢;have Hp0:=hid hp0;clear hp0;go_wp2_with fail
 rw[zaH];have HB3:=hid (Blk.new ((w.alloc (.cells ar 36)).alloc (.cells msgZ.arr 36)) 36 msgZ.arr);rw[World.size_alloc,World.size_alloc] at HB3;simp only[Tryz.sizeOf36,Result.andThen,↓reduceIte,zg HB3.out (by rw[HP.out];exact zK) (by rw[HP.out,HZ.out]) HP1.out,HP.out];rw[Oper.upon_skip];have hset:=World.setRow_alloc_new ((w.alloc (.cells ar 36)).alloc (.cells msgZ.arr 36)) msgZ.arr p 36;rw[World.size_alloc,World.size_alloc] at hset;rw[hset];clear hset HB3;have hX:=((Ext.alloc w (.cells ar 36)).alloc' (.cells msgZ.arr 36)).alloc' (.cells p 36);have hB1:=(HBa.out.alloc (.cells msgZ.arr 36)).alloc (.cells p 36)
 have hB2:=(Blk.new (w.alloc (.cells ar 36)) 36 msgZ.arr).alloc (.cells p 36);have hB3:=Blk.new ((w.alloc (.cells ar 36)).alloc (.cells msgZ.arr 36)) 36 p;rw[World.size_alloc] at hB2;rw[World.size_alloc,World.size_alloc] at hB3;generalize ((w.alloc (.cells ar 36)).alloc (.cells msgZ.arr 36)).alloc (.cells p 36)=w3 at hX hB1 hB2 hB3⊢;have HX3:=hid hX;have HB1:=hid hB1;have HB2:=hid hB2;have HB3:=hid hB3;clear hX hB1 hB2 hB3 HBa;obtain⟨q1,hq1⟩:∃ q,q=w.heap.size:=⟨_,rfl⟩
 rw[←hq1] at HB1 HB2 HB3⊢;have hqw:w.heap.size≤q1:=by omega
 have HW:=hid hqw;clear hq1 hqw;dsimp only[Act.put];have c0:=HB1.out.cell a0;have l1:=HB1.out.lt;have l3:=HB3.out.lt;have hn13:q1≠q1+1+1:=by omega
 have a4:ar[4]? = some (.int .i64 m.r1):=HA.out 4 (by omega);have t4:t[4]? = some (.int .i64 m.r1):=by rw[HT.out 4 (by omega),←HXE.out];simp[MsgC.head,MsgI.at,zQ,zak,HEk.out,SlV.val,zO,nilS]
 have a5:ar[5]? = some (.int .i64 m.r2):=HA.out 5 (by omega);have t5:t[5]? = some (.int .i64 m.r2):=by rw[HT.out 5 (by omega),←HXE.out];simp[MsgC.head,MsgI.at,zQ,zak,HEk.out,SlV.val,zO,nilS]
 have a6:ar[6]? = some (.int .i64 m.r3):=HA.out 6 (by omega);have t6:t[6]? = some (.int .i64 m.r3):=by rw[HT.out 6 (by omega),←HXE.out];simp[MsgC.head,MsgI.at,zQ,zak,HEk.out,SlV.val,zO,nilS]
 have a12:ar[12]? = some (.int .i64 m.seq):=HA.out 12 (by omega);have t12:t[12]? = some (.int .i64 m.seq):=by rw[HT.out 12 (by omega),←HXE.out];simp[MsgC.head,MsgI.at,zQ,zak,HEk.out,SlV.val,zO,nilS]
 have a13:ar[13]? = some (.bool m.last):=HA.out 13 (by omega);have t13:t[13]? = some (.bool m.last):=by rw[HT.out 13 (by omega),←HXE.out];simp[MsgC.head,MsgI.at,zQ,zak,HEk.out,SlV.val,zO,nilS]
 have a14:ar[14]? = some (.slice ae1 ae2 ae3):=HA.out 14 (by omega);have t14:t[14]? = some (.slice ae1 ae2 ae3):=by rw[HT.out 14 (by omega),←HXE.out];simp[MsgC.head,MsgI.at,zQ,zak,HEk.out,SlV.val,zO,nilS]
 have a145:ar[145]? = some (.slice an1 an2 an3):=HAE.out 0;have t145:t[145]? = some (.slice an1 an2 an3):=by rw[HTE.out 0,←HXE.out];simp[MsgC.head,MsgI.at,zQ,zak,HEk.out,SlV.val,zO,nilS]
 have c4:=HB1.out.cell a4;have c5:=HB1.out.cell a5;have c6:=HB1.out.cell a6;have c12:=HB1.out.cell a12;have c13:=HB1.out.cell a13;have c14:=HB1.out.cell a14;go_wp2_with fail
 refine zba (relC (q1+1+1) 36 p t) (facC w3 (q1+1+1) 36 p t) (pre:=?pre3) (z:=?z3) ?hpre3 ?hz3 (facC.steady _ _ _ _ _) (facC.start HB3.out) (by kernel_rfl) (by kernel_rfl) (by kernel_rfl) (by kernel_rfl) ?_
 case hpre3=>(simp only[List.dropLast_cons_cons,List.dropLast_singleton];first | done | exact rfl)
 case hz3=>(simp only[List.getLast?_cons_cons,List.getLast?_singleton];first | done | exact rfl)
 repeat (first
  | (refine AWe.valE rfl rfl rfl rfl ?_;apply Exists.intro;refine And.intro (fun wc hc=>?_) ?_;(· (have r4:=zW hc.1 l1 hn13 c4;have r5:=zW hc.1 l1 hn13 c5;have r6:=zW hc.1 l1 hn13 c6;have r12:=zW hc.1 l1 hn13 c12;have r13:=zW hc.1 l1 hn13 c13;have r14:=zW hc.1 l1 hn13 c14;have lw:=Nat.lt_of_lt_of_le l1 hc.1.size;clear hc;go_simp;dsimp only[Gives];exact⟨rfl,rfl⟩));simp only[Act.put,zq6,zq7,zq8])
  | (refine AWe.eff (setC (q1+1+1) 36 p t 4 3) (setC.steady _ _ _ _ _ _) rfl rfl rfl rfl (fun wc hc=>?_) ?_;(· (obtain⟨c9,h9,b9⟩:=hc.2;have k:=zat (o:=4) (vs:=[Value.int .i64 m.r1,Value.int .i64 m.r2,Value.int .i64 m.r3]) h9 b9 (by rw[HP.out];show 4+3≤147;omega) (fun j hj=>by rcases j with _ | _ | _ | j;exact t4.symm;exact t5.symm;exact t6.symm;(simp at hj;try omega));exact zbp (vs:=#[Value.int .i64 m.r1,Value.int .i64 m.r2,Value.int .i64 m.r3]) rfl rfl rfl rfl h9 (by kernel_rfl) (by rw[b9.1,HP.out];show 4+3≤147;omega) (fun u hu=>by simp at hu;rcases hu with rfl | rfl | rfl <;> rfl) ⟨k.1,k.2⟩)))
  | (refine AWe.eff (setC (q1+1+1) 36 p t 12 1) (setC.steady _ _ _ _ _ _) rfl rfl rfl rfl (fun wc hc=>?_) ?_;(· (obtain⟨c9,h9,b9⟩:=hc.2;have k:=zat (o:=12) (vs:=[Value.int .i64 m.seq]) h9 b9 (by rw[HP.out];show 12+1≤147;omega) (fun j hj=>by(have:j=0:=by simpa using hj);subst this;exact t12.symm);exact zbp (vs:=#[Value.int .i64 m.seq]) rfl rfl rfl rfl h9 (by kernel_rfl) (by rw[b9.1,HP.out];show 12+1≤147;omega) (fun u hu=>by simp at hu;subst hu;rfl) ⟨k.1,k.2⟩)))
  | (refine AWe.eff (setC (q1+1+1) 36 p t 13 1) (setC.steady _ _ _ _ _ _) rfl rfl rfl rfl (fun wc hc=>?_) ?_;(· (obtain⟨c9,h9,b9⟩:=hc.2;have k:=zat (o:=13) (vs:=[Value.bool m.last]) h9 b9 (by rw[HP.out];show 13+1≤147;omega) (fun j hj=>by(have:j=0:=by simpa using hj);subst this;exact t13.symm);exact zbp (vs:=#[Value.bool m.last]) rfl rfl rfl rfl h9 (by kernel_rfl) (by rw[b9.1,HP.out];show 13+1≤147;omega) (fun u hu=>by simp at hu;subst hu;rfl) ⟨k.1,k.2⟩))))
 refine AWe.last rfl rfl rfl (fun w9 x9 hfin=>?_);simp only[zo,Act.put,zq6,zq7,zq8];obtain⟨k9,c9,h9,b9⟩:=x9;obtain⟨v9,hv9⟩:∃ v,c9[14]? = some v:=⟨_,Array.getElem?_eq_getElem (by rw[b9.1,HP.out];omega)⟩
 have r9:=h9.cell hv9;have f9:=h9.frozen 14;have l9:=h9.lt;have ks:=zat (o:=14) (vs:=[Value.slice ae1 ae2 ae3]) h9 b9 (by rw[HP.out];show 14+1≤147;omega) (fun j hj=>by(have:j=0:=by simpa using hj);subst this;exact t14.symm);have HKs:=hid ks;have st:=fun o n (h:setC (q1+1+1) 36 p t o n w9)=>setC.steady _ _ _ _ o n _ _ HKs.out.2 h;obtain⟨y,hy,by_,_⟩:=HKs.out.2.2 c9 h9 b9;have HY:Hid (∀ x∈[(4,3),(12,1),(13,1),(14,1)],∀ j:Nat,x.1≤j→j<x.1+x.2→y[j]? = t[j]?):=fun x hx=>by
  have hall:setC (q1+1+1) 36 p t x.1 x.2 (w9.setCells (q1+1+1) 14 [.slice ae1 ae2 ae3]):=by
   simp only[List.mem_cons,List.not_mem_nil,or_false] at hx;rcases hx with rfl | rfl | rfl | rfl
   ·exact st _ _ hfin.1.1.2
   ·exact st _ _ hfin.1.2
   ·exact st _ _ hfin.2
   ·exact HKs.out.1
  obtain⟨d,hd1,_,hd3⟩:=hall;rw[zhv hy hd1];exact hd3
 have HPy:Hid (y.size=147):=by_.1.trans HP.out;have HBy:=hid by_.2;have HB7:Hid (Blk (w9.setCell ⟨q1+1+1,14,none⟩ (.slice ae1 ae2 ae3)) (q1+1+1) 36 y):=hy;have K10:Hid (Keep (fun q=>q=q1+1+1) w3 (w9.setCell ⟨q1+1+1,14,none⟩ (.slice ae1 ae2 ae3))):=k9.trans HKs.out.2.1;clear HKs ks h9 b9 hfin hv9 c4 c5 c6 c12 c13 c14 st hy by_ k9;go_wp2_with fail
 generalize w9.setCell ⟨q1+1+1,14,none⟩ (.slice ae1 ae2 ae3)=w7 at HB7 K10⊢;clear r9 f9 l9;have l17:=Nat.lt_of_lt_of_le l1 K10.out.size;have c1457:=zW K10.out l1 hn13 (HB1.out.cell a145);have HLV7:=hid (fun j v (h:(vecV m.V)[j]? = some v)=>zW K10.out l1 hn13 (HB1.out.cell (HAV.out j v h)));have HLA7:=hid (fun j v (h:(vecV m.A)[j]? = some v)=>zW K10.out l1 hn13 (HB1.out.cell (HAA.out j v h)));have hsV:=hid (show(vecV m.V).size=65 by rw[zj];exact m.hV);have hsA:=hid (show(vecV m.A).size=65 by rw[zj];exact m.hA);have hvV:∀ j,j<(vecV m.V).toList.length→(vecV m.V).toList[j]? = t[15+j]?:=fun j hj=>by
  rw[List.getElem?_eq_getElem hj];refine(HTV.out j _ ?_).symm;rw[←HXE.out];have e:((zQ m).at (zak m ⟨⟨af1,af2,af3⟩,⟨ax1,ax2,ax3⟩,⟨ay1,ay2,ay3⟩,⟨ah1,ah2,ah3⟩,⟨ae1,ae2,ae3⟩,⟨an1,an2,an3⟩⟩)).V=m.V:=by simp[MsgI.at,zQ,HEk.out]
  rw[e];have e2:(vecV m.V).toList=intsV m.V:=by simp[vecV,intsV]
  rw[←e2];exact List.getElem?_eq_getElem hj
 have hvA:∀ j,j<(vecV m.A).toList.length→(vecV m.A).toList[j]? = t[80+j]?:=fun j hj=>by
  rw[List.getElem?_eq_getElem hj];refine(HTA.out j _ ?_).symm;rw[←HXE.out];have e:((zQ m).at (zak m ⟨⟨af1,af2,af3⟩,⟨ax1,ax2,ax3⟩,⟨ay1,ay2,ay3⟩,⟨ah1,ah2,ah3⟩,⟨ae1,ae2,ae3⟩,⟨an1,an2,an3⟩⟩)).A=m.A:=by simp[MsgI.at,zQ,HEk.out]
  rw[e];have e2:(vecV m.A).toList=intsV m.A:=by simp[vecV,intsV]
  rw[←e2];exact List.getElem?_eq_getElem hj
 refine zba (relC (q1+1+1) 36 y t) (facC w7 (q1+1+1) 36 y t) (pre:=?pre7) (z:=?z7) ?hpre7 ?hz7 (facC.steady _ _ _ _ _) (facC.start HB7.out) (by kernel_rfl) (by kernel_rfl) (by kernel_rfl) (by kernel_rfl) ?_
 case hpre7=>(simp only[List.dropLast_cons_cons,List.dropLast_singleton];first | done | exact rfl)
 case hz7=>(simp only[List.getLast?_cons_cons,List.getLast?_singleton];first | done | exact rfl)
 repeat (first
  | (refine AWe.valE rfl rfl rfl rfl ?_;apply Exists.intro;refine And.intro (fun wc hc=>zc3 rfl rfl (zae hsV.out (fun j v hv=>zW hc.1 l17 hn13 (HLV7.out j v hv)))) ?_;simp only[Act.put,zq6,zq7,zq8])
  | (refine AWe.valE rfl rfl rfl rfl ?_;apply Exists.intro;refine And.intro (fun wc hc=>zc3 rfl rfl (zae hsA.out (fun j v hv=>zW hc.1 l17 hn13 (HLA7.out j v hv)))) ?_;simp only[Act.put,zq6,zq7,zq8])
  | (refine AWe.valE rfl rfl rfl rfl ?_;apply Exists.intro;refine And.intro (fun wc hc=>?_) ?_;(· (have r145:=zW hc.1 l17 hn13 c1457;have lw:=Nat.lt_of_lt_of_le l17 hc.1.size;clear hc;go_simp;dsimp only[Gives];exact⟨rfl,rfl⟩));simp only[Act.put,zq6,zq7,zq8])
  | (refine AWe.valE rfl rfl rfl rfl ?_;apply Exists.intro;refine And.intro (fun wc hc=>?_) ?_;(· (clear hc;go_simp;simp only[Tryz.sizeOf33,Result.andThen];rw[if_neg (show ¬ (65:Nat)=0 by omega)];dsimp only[Gives];exact⟨rfl,rfl⟩));simp only[Act.put,zq6,zq7,zq8])
  | (refine AWe.eff (setC (q1+1+1) 36 y t 15 (vecV m.V).toList.length) (setC.steady _ _ _ _ _ _) rfl rfl rfl rfl (fun wc hc=>?_) ?_;(· (obtain⟨c9,h9,b9⟩:=hc.2;have k:=zat (o:=15) (vs:=(vecV m.V).toList) h9 b9 (by rw[Array.length_toList,zj,m.hV,HPy.out];omega) (fun j hj=>hvV j hj);exact zbp (vs:=vecV m.V) rfl rfl rfl rfl h9 (by rw[zj,m.hV];exact zY) (by rw[b9.1,HPy.out,zj,m.hV];omega) (fun u hu=>(Array.all_eq_true_iff_forall_mem.1 (zaw m.V)) u (by simpa using hu)) ⟨k.1,k.2⟩)))
  | (refine AWe.eff (setC (q1+1+1) 36 y t 80 (vecV m.A).toList.length) (setC.steady _ _ _ _ _ _) rfl rfl rfl rfl (fun wc hc=>?_) ?_;(· (obtain⟨c9,h9,b9⟩:=hc.2;have k:=zat (o:=80) (vs:=(vecV m.A).toList) h9 b9 (by rw[Array.length_toList,zj,m.hA,HPy.out];omega) (fun j hj=>hvA j hj);exact zbp (vs:=vecV m.A) rfl rfl rfl rfl h9 (by rw[zj,m.hA];exact zY) (by rw[b9.1,HPy.out,zj,m.hA];omega) (fun u hu=>(Array.all_eq_true_iff_forall_mem.1 (zaw m.A)) u (by simpa using hu)) ⟨k.1,k.2⟩))))
 refine AWe.last rfl rfl rfl (fun w9 x9 hfin=>?_);simp only[zo,Act.put,zq6,zq7,zq8];obtain⟨k9,c9,h9,b9⟩:=x9;obtain⟨v9,hv9⟩:∃ v,c9[145]? = some v:=⟨_,Array.getElem?_eq_getElem (by rw[b9.1,HPy.out];omega)⟩
 have r9:=h9.cell hv9;have f9:=h9.frozen 145;have l9:=h9.lt;have ks:=zat (o:=145) (vs:=[Value.slice an1 an2 an3]) h9 b9 (by rw[HPy.out];show 145+1≤147;omega) (fun j hj=>by(have:j=0:=by simpa using hj);subst this;exact t145.symm);have HKs:=hid ks;have HBt:Hid (Blk (w9.setCell ⟨q1+1+1,145,none⟩ (.slice an1 an2 an3)) (q1+1+1) 36 t):=by
  have st:=fun o n (h:setC (q1+1+1) 36 y t o n w9)=>setC.steady _ _ _ _ o n _ _ HKs.out.2 h;obtain⟨u,hu,bu,_⟩:=HKs.out.2.2 c9 h9 b9;have hl1:(vecV m.V).toList.length=65:=by rw[Array.length_toList];exact hsV.out
  have hl2:(vecV m.A).toList.length=65:=by rw[Array.length_toList];exact hsA.out
  refine setC.all (p:=y) (by rw[HPy.out,HTs.out]) [(15,65),(80,65),(145,1)] ⟨u,hu,bu⟩ (fun x hx=>by
   simp only[List.mem_cons,List.not_mem_nil,or_false] at hx;rcases hx with rfl | rfl | rfl
   ·have:=st _ _ hfin.1.2
    rw[hl1] at this;exact this
   ·have:=st _ _ hfin.2
    rw[hl2] at this;exact this
   ·exact HKs.out.1) (fun j=>?_)
  have hpy:p[j]? = t[j]? → y[j]? = t[j]?:=fun h=>by
   rcases HBy.out j with h2 | h2
   ·rw[h2,h]
   ·exact h2
  rcases HDf.out j with h | ⟨h1,h2⟩ | ⟨h1,h2,h3⟩ | ⟨h1,h2,h3⟩ | ⟨h1,h2⟩
  ·exact .inl (hpy h)
  ·left
   rw[←HXE.out] at h2;rcases j with _ | _ | _ | _ | _ | _ | _ | _ | _ | _ | _ | _ | _ | _ | _ | j
   all_goals first
    | (exfalso;apply h2;simp[MsgC.head,MsgI.at,zQ,zak,HEk.out,zO];done)
    | exact HY.out (4,3) (by simp) _ (by show 4≤_;omega) (by show _<4+3;omega)
    | exact HY.out (12,1) (by simp) _ (by show 12≤_;omega) (by show _<12+1;omega)
    | exact HY.out (13,1) (by simp) _ (by show 13≤_;omega) (by show _<13+1;omega)
    | exact HY.out (14,1) (by simp) _ (by show 14≤_;omega) (by show _<14+1;omega)
    | (exfalso;omega)
  ·right;exact⟨(15,65),by simp,h1,by show j<15+65;omega⟩
  ·right;exact⟨(80,65),by simp,h1,by show j<80+65;omega⟩
  ·rw[←HXE.out] at h2
   generalize hjj:j-145=i at h2;rcases i with _ | _ | i
   ·right;exact⟨(145,1),by simp,h1,by show j<145+1;omega⟩
   ·exfalso;apply h2;simp[MsgI.at,zQ,HEk.out,zO]
   ·exfalso;apply h2;simp
 have HKx:Hid (Keep (fun q=>q=q1+1+1) w3 (w9.setCell ⟨q1+1+1,145,none⟩ (.slice an1 an2 an3))):=K10.out.trans (k9.trans HKs.out.2.1);have HXt:=hid (HKx.out.toExt HX3.out (fun g hg=>by subst hg;have:=HW.out;omega));have HB2t:=hid (HB2.out.keep HKx.out (show ¬ (q1+1=q1+1+1) by omega));have r0:=zW (K10.out.trans k9) l1 hn13 c0;have lw:=Nat.lt_of_lt_of_le l17 k9.size;clear HKs ks k9 h9 b9 hfin hv9 c1457 HKx K10 hvV hvA HLV7 HLA7 hsV hsA;go_wp2_with fail
 generalize w9.setCell ⟨q1+1+1,145,none⟩ (.slice an1 an2 an3)=wt at HBt HXt HB2t⊢;have lt:=HBt.out.lt;go_wp2_with fail
 simp only[Tryz.isAgg36,Tryz.sizeOf36,Result.andThen,↓reduceIte,za HBt.out 147 HTs.out];rw[Oper.upon_value];go_wp2_with fail
 simp only[Tryz.sizeOf36,Result.andThen,↓reduceIte,zg HB2t.out (by rw[HTs.out];exact zK) (by rw[HTs.out,HZ.out]) HT1.out,HTs.out];rw[Oper.upon_skip];have hB5:=HB2t.out.setRow t;have hE5:=(Keep.setRow (S:=fun q=>q=q1+1) (Keep.refl _ _) (.inl rfl) t).toExt HXt.out (fun g hg=>by subst hg;have:=HW.out;omega);have HB5:=hid hB5;have HE5:=hid hE5;clear hB5 hE5;dsimp only[Act.put];go_wp2_with fail
 exact bodyPost_ret (results_cell_row rfl _ _ (q1+1) 36 _ (0,0) _ rfl HB5.out Tryz.underlying36 rfl (by rw[HTs.out];exact zK)) rfl ⟨rfl,HE5.out⟩
theorem only3_c (w:World) (S:SlM) (m:MsgI) (ek:m.kind=3):Calls Tryz.prog 102 #[.agg (m.at S).arr] w (Ret (.agg ((zQ m).at (zak m S)).arr) w):=by
 have d1:(m.kind==1)=false:=by rw[ek];decide
 have d2:(m.kind==2)=false:=by rw[ek];decide
 have d3:(m.kind==3)=true:=by rw[ek];decide
 have d4:(m.kind==4)=false:=by rw[ek];decide
 have HEk:=hid ek;clear ek;have HA:=hid (zT (m.at S));have HAE:=hid (zab (m.at S));have hz:=hid (zJ (m.at S));have HAV:=hid (fun j v (h:(vecV m.V)[j]? = some v)=>zbJ (m.at S) j v (by simpa[vecV,intsV,MsgI.at] using h));have HAA:=hid (fun j v (h:(vecV m.A)[j]? = some v)=>zbK (m.at S) j v (by simpa[vecV,intsV,MsgI.at] using h));generalize (m.at S).arr=ar at HA hz HAE HAV HAA⊢;have HBa:=hid (Blk.new w 36 ar);obtain⟨⟨af1,af2,af3⟩,⟨ax1,ax2,ax3⟩,⟨ay1,ay2,ay3⟩,⟨ah1,ah2,ah3⟩,⟨ae1,ae2,ae3⟩,⟨an1,an2,an3⟩⟩:=S;have a0:ar[0]? = some (.int .i64 m.kind):=HA.out 0 (by omega)
 have a1:ar[1]? = some (.int .i64 m.s1):=HA.out 1 (by omega);have a2:ar[2]? = some (.int .i64 m.s2):=HA.out 2 (by omega);have a3:ar[3]? = some (.int .i64 m.s3):=HA.out 3 (by omega);have HZ:=hid (zJ msgZ);have HZ1:=hid (zan msgZ);have HP:=hid (zJ (zO m));have HP1:=hid (zan (zO m));obtain⟨X,hXe⟩:∃ X:MsgC,(zQ m).at (zak m ⟨⟨af1,af2,af3⟩,⟨ax1,ax2,ax3⟩,⟨ay1,ay2,ay3⟩,⟨ah1,ah2,ah3⟩,⟨ae1,ae2,ae3⟩,⟨an1,an2,an3⟩⟩)=X:=⟨_,rfl⟩
 have HDf:=hid (zdp (zO m) X);have HT:=hid (zT X);have HTE:=hid (zab X);have HTs:=hid (zJ X);have HT1:=hid (zan X);have HTV:=hid (zbJ X);have HTA:=hid (zbK X);have HXE:=hid hXe;rw[hXe];clear hXe;generalize hte:X.arr=t at HDf HT HTE HTs HT1 HTV HTA⊢;have Hte:=hid hte;clear hte;go_enter Tryz.func102,Tryz.ntmps102;go_wp2_with fail
 simp only[Tryz.sizeOf33,Result.andThen];rw[Oper.upon_value,zcn];generalize hp0:(zO m).arr=p at HP HP1 HDf⊢;have Hp0:=hid hp0;clear hp0;go_wp2_with fail
 rw[zaH];have HB3:=hid (Blk.new ((w.alloc (.cells ar 36)).alloc (.cells msgZ.arr 36)) 36 msgZ.arr);rw[World.size_alloc,World.size_alloc] at HB3;simp only[Tryz.sizeOf36,Result.andThen,↓reduceIte,zg HB3.out (by rw[HP.out];exact zK) (by rw[HP.out,HZ.out]) HP1.out,HP.out];rw[Oper.upon_skip];have hset:=World.setRow_alloc_new ((w.alloc (.cells ar 36)).alloc (.cells msgZ.arr 36)) msgZ.arr p 36;rw[World.size_alloc,World.size_alloc] at hset;rw[hset];clear hset HB3;have hX:=((Ext.alloc w (.cells ar 36)).alloc' (.cells msgZ.arr 36)).alloc' (.cells p 36);have hB1:=(HBa.out.alloc (.cells msgZ.arr 36)).alloc (.cells p 36)
 have hB2:=(Blk.new (w.alloc (.cells ar 36)) 36 msgZ.arr).alloc (.cells p 36);have hB3:=Blk.new ((w.alloc (.cells ar 36)).alloc (.cells msgZ.arr 36)) 36 p;rw[World.size_alloc] at hB2;rw[World.size_alloc,World.size_alloc] at hB3;generalize ((w.alloc (.cells ar 36)).alloc (.cells msgZ.arr 36)).alloc (.cells p 36)=w3 at hX hB1 hB2 hB3⊢;have HX3:=hid hX;have HB1:=hid hB1;have HB2:=hid hB2;have HB3:=hid hB3;clear hX hB1 hB2 hB3 HBa;obtain⟨q1,hq1⟩:∃ q,q=w.heap.size:=⟨_,rfl⟩
 rw[←hq1] at HB1 HB2 HB3⊢;have hqw:w.heap.size≤q1:=by omega
 have HW:=hid hqw;clear hq1 hqw;dsimp only[Act.put];have c0:=HB1.out.cell a0;have l1:=HB1.out.lt;have l3:=HB3.out.lt;have hn13:q1≠q1+1+1:=by omega
 have a4:ar[4]? = some (.int .i64 m.r1):=HA.out 4 (by omega);have t4:t[4]? = some (.int .i64 m.r1):=by rw[HT.out 4 (by omega),←HXE.out];simp[MsgC.head,MsgI.at,zQ,zak,HEk.out,SlV.val,zO,nilS]
 have c4:=HB1.out.cell a4;have a5:ar[5]? = some (.int .i64 m.r2):=HA.out 5 (by omega);have t5:t[5]? = some (.int .i64 m.r2):=by rw[HT.out 5 (by omega),←HXE.out];simp[MsgC.head,MsgI.at,zQ,zak,HEk.out,SlV.val,zO,nilS]
 have c5:=HB1.out.cell a5;have a6:ar[6]? = some (.int .i64 m.r3):=HA.out 6 (by omega);have t6:t[6]? = some (.int .i64 m.r3):=by rw[HT.out 6 (by omega),←HXE.out];simp[MsgC.head,MsgI.at,zQ,zak,HEk.out,SlV.val,zO,nilS]
 have c6:=HB1.out.cell a6;have z4:w3.cell? ⟨q1+1+1,4,none⟩=some (.int .i64 0):=HB3.out.cell (by rw[←Hp0.out];rfl);have f4:=HB3.out.frozen 4;have z5:w3.cell? ⟨q1+1+1,5,none⟩=some (.int .i64 0):=HB3.out.cell (by rw[←Hp0.out];rfl);have f5:=HB3.out.frozen 5;have z6:w3.cell? ⟨q1+1+1,6,none⟩=some (.int .i64 0):=HB3.out.cell (by rw[←Hp0.out];rfl);have f6:=HB3.out.frozen 6
 have HKs:=hid (zat (o:=4) (vs:=[Value.int .i64 m.r1,Value.int .i64 m.r2,Value.int .i64 m.r3]) HB3.out ⟨rfl,fun _=>.inl rfl⟩ (by rw[HP.out];show 4+3≤147;omega) (fun j hj=>by rcases j with _ | _ | _ | j;exact t4.symm;exact t5.symm;exact t6.symm;(simp at hj;try omega)));have HBt:Hid (Blk (((w3.setCell ⟨q1+1+1,4,none⟩ (.int .i64 m.r1)).setCell ⟨q1+1+1,5,none⟩ (.int .i64 m.r2)).setCell ⟨q1+1+1,6,none⟩ (.int .i64 m.r3)) (q1+1+1) 36 t):=by
  obtain⟨y,hy,by_,_⟩:=HKs.out.2.2 p HB3.out ⟨rfl,fun _=>.inl rfl⟩;refine setC.all (p:=p) (by rw[HP.out,HTs.out]) [(4,3)] ⟨y,hy,by_⟩ (fun x hx=>by
   simp only[List.mem_cons,List.not_mem_nil,or_false] at hx;subst hx;exact HKs.out.1)
   (fun j=>by
   rcases HDf.out j with h | ⟨h1,h2⟩ | ⟨h1,h2,h3⟩ | ⟨h1,h2,h3⟩ | ⟨h1,h2⟩
   ·exact .inl h
   ·right
    rw[←HXE.out] at h2;rcases j with _ | _ | _ | _ | _ | _ | _ | _ | _ | _ | _ | _ | _ | _ | _ | j
    all_goals first
     | (exfalso;apply h2;simp[MsgC.head,MsgI.at,zQ,zak,HEk.out,zO];done)
     | (simp only[List.mem_cons,List.not_mem_nil,or_false,exists_eq_or_imp,exists_eq_left];omega)
   ·rw[←HXE.out] at h3
    first
     | (exfalso;apply h3;simp[MsgI.at,zQ,HEk.out,zO];done)
     | (right;simp only[List.mem_cons,List.not_mem_nil,or_false,exists_eq_or_imp,exists_eq_left];omega)
   ·rw[←HXE.out] at h3
    first
     | (exfalso;apply h3;simp[MsgI.at,zQ,HEk.out,zO];done)
     | (right;simp only[List.mem_cons,List.not_mem_nil,or_false,exists_eq_or_imp,exists_eq_left];omega)
   ·rw[←HXE.out] at h2
    generalize hjj:j-145=i at h2;rcases i with _ | _ | i
    all_goals first
     | (exfalso;apply h2;simp[MsgI.at,zQ,zak,HEk.out,zO];done)
     | (right;simp only[List.mem_cons,List.not_mem_nil,or_false,exists_eq_or_imp,exists_eq_left];omega))
 have HXt:Hid (Ext w (((w3.setCell ⟨q1+1+1,4,none⟩ (.int .i64 m.r1)).setCell ⟨q1+1+1,5,none⟩ (.int .i64 m.r2)).setCell ⟨q1+1+1,6,none⟩ (.int .i64 m.r3))):=HKs.out.2.1.toExt HX3.out (fun g hg=>by subst hg;have:=HW.out;omega);have HB2t:Hid (Blk (((w3.setCell ⟨q1+1+1,4,none⟩ (.int .i64 m.r1)).setCell ⟨q1+1+1,5,none⟩ (.int .i64 m.r2)).setCell ⟨q1+1+1,6,none⟩ (.int .i64 m.r3)) (q1+1) 36 msgZ.arr):=HB2.out.keep HKs.out.2.1 (show ¬ (q1+1=q1+1+1) by omega);clear HKs;go_wp2_with fail
 generalize ((w3.setCell ⟨q1+1+1,4,none⟩ (.int .i64 m.r1)).setCell ⟨q1+1+1,5,none⟩ (.int .i64 m.r2)).setCell ⟨q1+1+1,6,none⟩ (.int .i64 m.r3)=wt at HBt HXt HB2t⊢;have lt:=HBt.out.lt;go_wp2_with fail
 simp only[Tryz.isAgg36,Tryz.sizeOf36,Result.andThen,↓reduceIte,za HBt.out 147 HTs.out];rw[Oper.upon_value];go_wp2_with fail
 simp only[Tryz.sizeOf36,Result.andThen,↓reduceIte,zg HB2t.out (by rw[HTs.out];exact zK) (by rw[HTs.out,HZ.out]) HT1.out,HTs.out];rw[Oper.upon_skip];have hB5:=HB2t.out.setRow t;have hE5:=(Keep.setRow (S:=fun q=>q=q1+1) (Keep.refl _ _) (.inl rfl) t).toExt HXt.out (fun g hg=>by subst hg;have:=HW.out;omega);have HB5:=hid hB5;have HE5:=hid hE5;clear hB5 hE5;dsimp only[Act.put];go_wp2_with fail
 exact bodyPost_ret (results_cell_row rfl _ _ (q1+1) 36 _ (0,0) _ rfl HB5.out Tryz.underlying36 rfl (by rw[HTs.out];exact zK)) rfl ⟨rfl,HE5.out⟩
theorem only4_c (w:World) (S:SlM) (m:MsgI) (ek:m.kind=4):Calls Tryz.prog 102 #[.agg (m.at S).arr] w (Ret (.agg ((zQ m).at (zak m S)).arr) w):=by
 have d1:(m.kind==1)=false:=by rw[ek];decide
 have d2:(m.kind==2)=false:=by rw[ek];decide
 have d3:(m.kind==3)=false:=by rw[ek];decide
 have d4:(m.kind==4)=true:=by rw[ek];decide
 have HEk:=hid ek;clear ek;have HA:=hid (zT (m.at S));have HAE:=hid (zab (m.at S));have hz:=hid (zJ (m.at S));have HAV:=hid (fun j v (h:(vecV m.V)[j]? = some v)=>zbJ (m.at S) j v (by simpa[vecV,intsV,MsgI.at] using h));have HAA:=hid (fun j v (h:(vecV m.A)[j]? = some v)=>zbK (m.at S) j v (by simpa[vecV,intsV,MsgI.at] using h));generalize (m.at S).arr=ar at HA hz HAE HAV HAA⊢;have HBa:=hid (Blk.new w 36 ar);obtain⟨⟨af1,af2,af3⟩,⟨ax1,ax2,ax3⟩,⟨ay1,ay2,ay3⟩,⟨ah1,ah2,ah3⟩,⟨ae1,ae2,ae3⟩,⟨an1,an2,an3⟩⟩:=S;have a0:ar[0]? = some (.int .i64 m.kind):=HA.out 0 (by omega)
 have a1:ar[1]? = some (.int .i64 m.s1):=HA.out 1 (by omega);have a2:ar[2]? = some (.int .i64 m.s2):=HA.out 2 (by omega);have a3:ar[3]? = some (.int .i64 m.s3):=HA.out 3 (by omega);have HZ:=hid (zJ msgZ);have HZ1:=hid (zan msgZ);have HP:=hid (zJ (zO m));have HP1:=hid (zan (zO m));obtain⟨X,hXe⟩:∃ X:MsgC,(zQ m).at (zak m ⟨⟨af1,af2,af3⟩,⟨ax1,ax2,ax3⟩,⟨ay1,ay2,ay3⟩,⟨ah1,ah2,ah3⟩,⟨ae1,ae2,ae3⟩,⟨an1,an2,an3⟩⟩)=X:=⟨_,rfl⟩
 have HDf:=hid (zdp (zO m) X);have HT:=hid (zT X);have HTE:=hid (zab X);have HTs:=hid (zJ X);have HT1:=hid (zan X);have HTV:=hid (zbJ X);have HTA:=hid (zbK X);have HXE:=hid hXe;rw[hXe];clear hXe;generalize hte:X.arr=t at HDf HT HTE HTs HT1 HTV HTA⊢;have Hte:=hid hte;clear hte;go_enter Tryz.func102,Tryz.ntmps102;go_wp2_with fail
 simp only[Tryz.sizeOf33,Result.andThen];rw[Oper.upon_value,zcn];generalize hp0:(zO m).arr=p at HP HP1 HDf⊢;have Hp0:=hid hp0;clear hp0;go_wp2_with fail
 rw[zaH];have HB3:=hid (Blk.new ((w.alloc (.cells ar 36)).alloc (.cells msgZ.arr 36)) 36 msgZ.arr);rw[World.size_alloc,World.size_alloc] at HB3;simp only[Tryz.sizeOf36,Result.andThen,↓reduceIte,zg HB3.out (by rw[HP.out];exact zK) (by rw[HP.out,HZ.out]) HP1.out,HP.out];rw[Oper.upon_skip];have hset:=World.setRow_alloc_new ((w.alloc (.cells ar 36)).alloc (.cells msgZ.arr 36)) msgZ.arr p 36;rw[World.size_alloc,World.size_alloc] at hset;rw[hset];clear hset HB3;have hX:=((Ext.alloc w (.cells ar 36)).alloc' (.cells msgZ.arr 36)).alloc' (.cells p 36);have hB1:=(HBa.out.alloc (.cells msgZ.arr 36)).alloc (.cells p 36)
 have hB2:=(Blk.new (w.alloc (.cells ar 36)) 36 msgZ.arr).alloc (.cells p 36);have hB3:=Blk.new ((w.alloc (.cells ar 36)).alloc (.cells msgZ.arr 36)) 36 p;rw[World.size_alloc] at hB2;rw[World.size_alloc,World.size_alloc] at hB3;generalize ((w.alloc (.cells ar 36)).alloc (.cells msgZ.arr 36)).alloc (.cells p 36)=w3 at hX hB1 hB2 hB3⊢;have HX3:=hid hX;have HB1:=hid hB1;have HB2:=hid hB2;have HB3:=hid hB3;clear hX hB1 hB2 hB3 HBa;obtain⟨q1,hq1⟩:∃ q,q=w.heap.size:=⟨_,rfl⟩
 rw[←hq1] at HB1 HB2 HB3⊢;have hqw:w.heap.size≤q1:=by omega
 have HW:=hid hqw;clear hq1 hqw;dsimp only[Act.put];have c0:=HB1.out.cell a0;have l1:=HB1.out.lt;have l3:=HB3.out.lt;have hn13:q1≠q1+1+1:=by omega
 have a146:ar[146]? = some (.int .i64 m.code):=HAE.out 1;have t146:t[146]? = some (.int .i64 m.code):=by rw[HTE.out 1,←HXE.out];simp[MsgC.head,MsgI.at,zQ,zak,HEk.out,SlV.val,zO,nilS]
 have c146:=HB1.out.cell a146;have z146:w3.cell? ⟨q1+1+1,146,none⟩=some (.int .i64 0):=HB3.out.cell (by rw[←Hp0.out];exact zab (zO m) 1);have f146:=HB3.out.frozen 146;have HKs:=hid (zat (o:=146) (vs:=[Value.int .i64 m.code]) HB3.out ⟨rfl,fun _=>.inl rfl⟩ (by rw[HP.out];show 146+1≤147;omega) (fun j hj=>by(have:j=0:=by simpa using hj);subst this;exact t146.symm));have HBt:Hid (Blk (w3.setCell ⟨q1+1+1,146,none⟩ (.int .i64 m.code)) (q1+1+1) 36 t):=by
  obtain⟨y,hy,by_,_⟩:=HKs.out.2.2 p HB3.out ⟨rfl,fun _=>.inl rfl⟩;refine setC.all (p:=p) (by rw[HP.out,HTs.out]) [(146,1)] ⟨y,hy,by_⟩ (fun x hx=>by
   simp only[List.mem_cons,List.not_mem_nil,or_false] at hx;subst hx;exact HKs.out.1)
   (fun j=>by
   rcases HDf.out j with h | ⟨h1,h2⟩ | ⟨h1,h2,h3⟩ | ⟨h1,h2,h3⟩ | ⟨h1,h2⟩
   ·exact .inl h
   ·right
    rw[←HXE.out] at h2;rcases j with _ | _ | _ | _ | _ | _ | _ | _ | _ | _ | _ | _ | _ | _ | _ | j
    all_goals first
     | (exfalso;apply h2;simp[MsgC.head,MsgI.at,zQ,zak,HEk.out,zO];done)
     | (simp only[List.mem_cons,List.not_mem_nil,or_false,exists_eq_or_imp,exists_eq_left];omega)
   ·rw[←HXE.out] at h3
    first
     | (exfalso;apply h3;simp[MsgI.at,zQ,HEk.out,zO];done)
     | (right;simp only[List.mem_cons,List.not_mem_nil,or_false,exists_eq_or_imp,exists_eq_left];omega)
   ·rw[←HXE.out] at h3
    first
     | (exfalso;apply h3;simp[MsgI.at,zQ,HEk.out,zO];done)
     | (right;simp only[List.mem_cons,List.not_mem_nil,or_false,exists_eq_or_imp,exists_eq_left];omega)
   ·rw[←HXE.out] at h2
    generalize hjj:j-145=i at h2;rcases i with _ | _ | i
    all_goals first
     | (exfalso;apply h2;simp[MsgI.at,zQ,zak,HEk.out,zO];done)
     | (right;simp only[List.mem_cons,List.not_mem_nil,or_false,exists_eq_or_imp,exists_eq_left];omega))
 have HXt:Hid (Ext w (w3.setCell ⟨q1+1+1,146,none⟩ (.int .i64 m.code))):=HKs.out.2.1.toExt HX3.out (fun g hg=>by subst hg;have:=HW.out;omega);have HB2t:Hid (Blk (w3.setCell ⟨q1+1+1,146,none⟩ (.int .i64 m.code)) (q1+1) 36 msgZ.arr):=HB2.out.keep HKs.out.2.1 (show ¬ (q1+1=q1+1+1) by omega);clear HKs;go_wp2_with fail
 generalize w3.setCell ⟨q1+1+1,146,none⟩ (.int .i64 m.code)=wt at HBt HXt HB2t⊢;have lt:=HBt.out.lt;go_wp2_with fail
 simp only[Tryz.isAgg36,Tryz.sizeOf36,Result.andThen,↓reduceIte,za HBt.out 147 HTs.out];rw[Oper.upon_value];go_wp2_with fail
 simp only[Tryz.sizeOf36,Result.andThen,↓reduceIte,zg HB2t.out (by rw[HTs.out];exact zK) (by rw[HTs.out,HZ.out]) HT1.out,HTs.out];rw[Oper.upon_skip];have hB5:=HB2t.out.setRow t;have hE5:=(Keep.setRow (S:=fun q=>q=q1+1) (Keep.refl _ _) (.inl rfl) t).toExt HXt.out (fun g hg=>by subst hg;have:=HW.out;omega);have HB5:=hid hB5;have HE5:=hid hE5;clear hB5 hE5;dsimp only[Act.put];go_wp2_with fail
 exact bodyPost_ret (results_cell_row rfl _ _ (q1+1) 36 _ (0,0) _ rfl HB5.out Tryz.underlying36 rfl (by rw[HTs.out];exact zK)) rfl ⟨rfl,HE5.out⟩
theorem only0_c (w:World) (S:SlM) (m:MsgI) (ek:m.kind≠1∧m.kind≠2∧m.kind≠3∧m.kind≠4):Calls Tryz.prog 102 #[.agg (m.at S).arr] w (Ret (.agg ((zQ m).at (zak m S)).arr) w):=by
 have d1:(m.kind==1)=false:=by simp[ek]
 have d2:(m.kind==2)=false:=by simp[ek]
 have d3:(m.kind==3)=false:=by simp[ek]
 have d4:(m.kind==4)=false:=by simp[ek]
 have HEk:=hid ek;clear ek;have HA:=hid (zT (m.at S));have HAE:=hid (zab (m.at S));have hz:=hid (zJ (m.at S));have HAV:=hid (fun j v (h:(vecV m.V)[j]? = some v)=>zbJ (m.at S) j v (by simpa[vecV,intsV,MsgI.at] using h));have HAA:=hid (fun j v (h:(vecV m.A)[j]? = some v)=>zbK (m.at S) j v (by simpa[vecV,intsV,MsgI.at] using h));generalize (m.at S).arr=ar at HA hz HAE HAV HAA⊢;have HBa:=hid (Blk.new w 36 ar);obtain⟨⟨af1,af2,af3⟩,⟨ax1,ax2,ax3⟩,⟨ay1,ay2,ay3⟩,⟨ah1,ah2,ah3⟩,⟨ae1,ae2,ae3⟩,⟨an1,an2,an3⟩⟩:=S;have a0:ar[0]? = some (.int .i64 m.kind):=HA.out 0 (by omega)
 have a1:ar[1]? = some (.int .i64 m.s1):=HA.out 1 (by omega);have a2:ar[2]? = some (.int .i64 m.s2):=HA.out 2 (by omega);have a3:ar[3]? = some (.int .i64 m.s3):=HA.out 3 (by omega);have HZ:=hid (zJ msgZ);have HZ1:=hid (zan msgZ);have HP:=hid (zJ (zO m));have HP1:=hid (zan (zO m));obtain⟨X,hXe⟩:∃ X:MsgC,(zQ m).at (zak m ⟨⟨af1,af2,af3⟩,⟨ax1,ax2,ax3⟩,⟨ay1,ay2,ay3⟩,⟨ah1,ah2,ah3⟩,⟨ae1,ae2,ae3⟩,⟨an1,an2,an3⟩⟩)=X:=⟨_,rfl⟩
 have HDf:=hid (zdp (zO m) X);have HT:=hid (zT X);have HTE:=hid (zab X);have HTs:=hid (zJ X);have HT1:=hid (zan X);have HTV:=hid (zbJ X);have HTA:=hid (zbK X);have HXE:=hid hXe;rw[hXe];clear hXe;generalize hte:X.arr=t at HDf HT HTE HTs HT1 HTV HTA⊢;have Hte:=hid hte;clear hte;go_enter Tryz.func102,Tryz.ntmps102;go_wp2_with fail
 simp only[Tryz.sizeOf33,Result.andThen];rw[Oper.upon_value,zcn];generalize hp0:(zO m).arr=p at HP HP1 HDf⊢;have Hp0:=hid hp0;clear hp0;go_wp2_with fail
 rw[zaH];have HB3:=hid (Blk.new ((w.alloc (.cells ar 36)).alloc (.cells msgZ.arr 36)) 36 msgZ.arr);rw[World.size_alloc,World.size_alloc] at HB3;simp only[Tryz.sizeOf36,Result.andThen,↓reduceIte,zg HB3.out (by rw[HP.out];exact zK) (by rw[HP.out,HZ.out]) HP1.out,HP.out];rw[Oper.upon_skip];have hset:=World.setRow_alloc_new ((w.alloc (.cells ar 36)).alloc (.cells msgZ.arr 36)) msgZ.arr p 36;rw[World.size_alloc,World.size_alloc] at hset;rw[hset];clear hset HB3;have hX:=((Ext.alloc w (.cells ar 36)).alloc' (.cells msgZ.arr 36)).alloc' (.cells p 36);have hB1:=(HBa.out.alloc (.cells msgZ.arr 36)).alloc (.cells p 36)
 have hB2:=(Blk.new (w.alloc (.cells ar 36)) 36 msgZ.arr).alloc (.cells p 36);have hB3:=Blk.new ((w.alloc (.cells ar 36)).alloc (.cells msgZ.arr 36)) 36 p;rw[World.size_alloc] at hB2;rw[World.size_alloc,World.size_alloc] at hB3;generalize ((w.alloc (.cells ar 36)).alloc (.cells msgZ.arr 36)).alloc (.cells p 36)=w3 at hX hB1 hB2 hB3⊢;have HX3:=hid hX;have HB1:=hid hB1;have HB2:=hid hB2;have HB3:=hid hB3;clear hX hB1 hB2 hB3 HBa;obtain⟨q1,hq1⟩:∃ q,q=w.heap.size:=⟨_,rfl⟩
 rw[←hq1] at HB1 HB2 HB3⊢;have hqw:w.heap.size≤q1:=by omega
 have HW:=hid hqw;clear hq1 hqw;dsimp only[Act.put];have c0:=HB1.out.cell a0;have l1:=HB1.out.lt;have l3:=HB3.out.lt;have hn13:q1≠q1+1+1:=by omega
 have HBt:Hid (Blk w3 (q1+1+1) 36 t):=by
  refine setC.all (p:=p) (by rw[HP.out,HTs.out]) [] ⟨p,HB3.out,rfl,fun _=>.inl rfl⟩ (fun x hx=>by cases hx)
   (fun j=>by
   rcases HDf.out j with h | ⟨h1,h2⟩ | ⟨h1,h2,h3⟩ | ⟨h1,h2,h3⟩ | ⟨h1,h2⟩
   ·exact .inl h
   ·right
    rw[←HXE.out] at h2;rcases j with _ | _ | _ | _ | _ | _ | _ | _ | _ | _ | _ | _ | _ | _ | _ | j
    all_goals first
     | (exfalso;apply h2;simp[MsgC.head,MsgI.at,zQ,zak,HEk.out,zO];done)
     | (simp only[List.mem_cons,List.not_mem_nil,or_false,exists_eq_or_imp,exists_eq_left];omega)
   ·rw[←HXE.out] at h3
    first
     | (exfalso;apply h3;simp[MsgI.at,zQ,HEk.out,zO];done)
     | (right;simp only[List.mem_cons,List.not_mem_nil,or_false,exists_eq_or_imp,exists_eq_left];omega)
   ·rw[←HXE.out] at h3
    first
     | (exfalso;apply h3;simp[MsgI.at,zQ,HEk.out,zO];done)
     | (right;simp only[List.mem_cons,List.not_mem_nil,or_false,exists_eq_or_imp,exists_eq_left];omega)
   ·rw[←HXE.out] at h2
    generalize hjj:j-145=i at h2;rcases i with _ | _ | i
    all_goals first
     | (exfalso;apply h2;simp[MsgI.at,zQ,zak,HEk.out,zO];done)
     | (right;simp only[List.mem_cons,List.not_mem_nil,or_false,exists_eq_or_imp,exists_eq_left];omega))
 have HXt:=hid HX3.out;have HB2t:=hid HB2.out;have lt:=HBt.out.lt;go_wp2_with fail
 simp only[Tryz.isAgg36,Tryz.sizeOf36,Result.andThen,↓reduceIte,za HBt.out 147 HTs.out];rw[Oper.upon_value];go_wp2_with fail
 simp only[Tryz.sizeOf36,Result.andThen,↓reduceIte,zg HB2t.out (by rw[HTs.out];exact zK) (by rw[HTs.out,HZ.out]) HT1.out,HTs.out];rw[Oper.upon_skip];have hB5:=HB2t.out.setRow t;have hE5:=(Keep.setRow (S:=fun q=>q=q1+1) (Keep.refl _ _) (.inl rfl) t).toExt HXt.out (fun g hg=>by subst hg;have:=HW.out;omega);have HB5:=hid hB5;have HE5:=hid hE5;clear hB5 hE5;dsimp only[Act.put];go_wp2_with fail
 exact bodyPost_ret (results_cell_row rfl _ _ (q1+1) 36 _ (0,0) _ rfl HB5.out Tryz.underlying36 rfl (by rw[HTs.out];exact zK)) rfl ⟨rfl,HE5.out⟩
theorem only_c (w:World) (S:SlM) (m:MsgI):Calls Tryz.prog 102 #[.agg (m.at S).arr] w (Ret (.agg ((zQ m).at (zak m S)).arr) w):=by
 by_cases h1:m.kind=1
 ·exact only1_c w S m h1
 by_cases h2:m.kind=2
 ·exact only2_c w S m h2
 by_cases h3:m.kind=3
 ·exact only3_c w S m h3
 by_cases h4:m.kind=4
 ·exact only4_c w S m h4
 exact only0_c w S m ⟨h1,h2,h3,h4⟩
end Go.Proofs.YtofjpdgojoppbaaGreatDoor
