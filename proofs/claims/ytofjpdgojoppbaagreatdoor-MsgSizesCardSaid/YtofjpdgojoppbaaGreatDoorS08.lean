/-
  Of the claim's proof: VcA, MsA, VcH, VcB, VcC, VcD, VcE, VcK, VcF, VcI, VcL, VcJ, VcM, PvB, PvC, LyB.
-/
import Derived.Test.YtofjpdgojoppbaaGreatDoorProg
import Derived.Deep.WholeRow
import Derived.ChangeKeysEq
import Derived.Test.YtofjpdgojoppbaaGreatDoorS01
import Derived.Test.YtofjpdgojoppbaaGreatDoorS02
import Derived.Test.YtofjpdgojoppbaaGreatDoorS03
import Derived.Test.YtofjpdgojoppbaaGreatDoorS04
import Derived.Test.YtofjpdgojoppbaaGreatDoorS05
import Derived.Test.YtofjpdgojoppbaaGreatDoorS07
set_option maxRecDepth 100000
set_option maxHeartbeats 16000000
set_option linter.unusedVariables false
set_option linter.unusedSimpArgs false
namespace Go.Proofs.YtofjpdgojoppbaaGreatDoor
section
open Go.RowKit
theorem Blk.setRow {w:World} {g:Nat} {t:TypeId} {cs:Array Value} (h:Blk w g t cs) (cs':Array Value):Blk (w.setRow g cs') g t cs':=setRow_heap w g cs cs' t (0,0) h
theorem Blk.farRow {w:World} {g k:Nat} {t:TypeId} {cs:Array Value} (h:Blk w g t cs) (hk:g≠k) (cs':Array Value):Blk (w.setRow k cs') g t cs:=(setRow_other w k g cs' hk).trans h
theorem Keep.setRow {S:Nat→Prop} {a b:World} (h:Keep S a b) {g:Nat} (hg:S g∨a.heap.size≤g) (cs:Array Value):Keep S a (b.setRow g cs):=
 ⟨h.os,h.tape,h.output,by have:=h.size;simpa using this,fun k hk hs=>by
  rw[setRow_other b g k cs (by rintro rfl;rcases hg with hg | hg;exact hs hg;omega)];exact h.block k hk hs⟩
theorem Ext.setRow {a b:World} (h:Ext a b) {g:Nat} (hg:a.heap.size≤g) (cs:Array Value):Ext a (b.setRow g cs):=Below.trans h ⟨rfl,rfl,rfl,by simp[World.setRow],fun k hk=>setRow_other b g k cs (by omega)⟩
theorem za {P:Program} {w:World} {g:Nat} {t:TypeId} {cs:Array Value} (h:Blk w g t cs) (n:Nat) (hn:cs.size=n):(loadCellsFrom ⟨g,0,none⟩ 0 n #[]).run P w=.ok cs w:=by
 subst hn;have:=run_loadCells_list (P:=P) w ⟨g,0,none⟩ cs.toList (fun j v hv=>by
  have hadd:(⟨g,0,none⟩:Addr).add j=⟨g,j,none⟩:=by unfold Addr.add;split <;> simp_all
  rw[hadd,cell_of_row _ _ j cs t (0,0) h];simpa using hv)
 simpa[loadCells] using this
theorem zb {P:Program} {w:World} {g:Nat} {t:TypeId} {cs cs':Array Value} (h:Blk w g t cs) (hi:(P.info? t).map (·.size)=some cs'.size) (ho:cs.size=cs'.size) (h1:cs'.all (·.oneCell')=true):(storeCells ⟨g,0,none⟩ cs'.toList 0).run P w=.ok () (w.setRow g cs'):=by
 have:=run_storeVar_row (P:=P) w g t t cs cs' h hi ho h1;cases hq:P.info? t with
 | none=>simp[hq] at hi
 | some i=>
  have hs:cs'.size=i.size:=by simp[hq] at hi;omega
  simpa[storeVar,sizeOf,typeInfo,hq,Value.cells,hs] using this
def vecV (v:List Int):Array Value:=(v.map (Value.int .i64)).toArray
theorem ze (v:List Int):(vecV v).size=v.length:=by simp[vecV]
theorem zaf (v:List Int):(vecV v).all (·.oneCell')=true:=by
 rw[Array.all_eq_true_iff_forall_mem];intro x hx;simp only[vecV,List.mem_toArray,List.mem_map] at hx;obtain⟨z,_,rfl⟩:=hx;rfl
theorem zbk (v:List Int) (k:Nat) (z:Int) (h:v[k]? = some z):(vecV v)[k]? = some (.int .i64 z):=by
 simp[vecV,h]
theorem zeV (v:List Int) (k:Nat) (z:Int):(vecV v).setIfInBounds k (.int .i64 z)=vecV (v.set k z):=by
 apply Array.ext';simp[vecV,List.map_set]
theorem zlc:(Tryz.prog.info? 33).map (fun i=>(i.zero,i.size))=some (some (.agg (Array.replicate 65 (.int .i64 0))),65):=by kernel_rfl
theorem zN:(Tryz.prog.info? 33).map (·.size)=some 65:=(zero_of_info zlc).2
def vec0:List Int:=List.replicate 65 0
theorem vec0_V:Array.replicate 65 (Value.int .i64 0)=vecV vec0:=by
 apply Array.ext';simp[vecV,vec0]
theorem zit:Tryz.zeroCells33=vecV vec0:=by
 rw[←vec0_V];kernel_rfl
attribute [simp] zit
theorem zdk (u:List Int) (k:Nat) (z:Int) (hk:k<65) (h:u[k]? = some z) (w:World):(Instr.index 33 (.agg (vecV u)) (.int .i64 k)).run Tryz.prog w=.ok (.int .i64 z) w:=by
 have h1:=zbk u k z h;have h2:(k:Int)<65:=by omega
 simp[Instr.index,asIntOf,go_sem,part,h1,h2];intro h9;omega
def cleanL (v:List Int):List Int:=(v.set 0 0).map fun n=>max n 0
theorem zaq (v:List Int):(cleanL v).length=v.length:=by simp[cleanL]
def zcV (v:List Int) (k:Nat):List Int:=((v.set 0 0).take k).map (fun n=>max n 0)++(v.set 0 0).drop k
theorem zgJ (v:List Int) (k:Nat):(zcV v k).length=v.length:=by
 unfold zcV;rw[List.length_append,List.length_map,List.length_take,List.length_drop,List.length_set];omega
theorem ziy {v:List Int} {k:Nat} {z:Int} (h:(v.set 0 0)[k]? = some z):(zcV v k).set k (max z 0)=zcV v (k+1):=by
 obtain⟨hk,hz⟩:=List.getElem?_eq_some_iff.1 h;unfold zcV;have hlen:(List.map (fun n=>max n 0) (List.take k (v.set 0 0))).length=k:=by
  rw[List.length_map,List.length_take];omega
 rw[List.drop_eq_getElem_cons hk,List.take_succ_eq_append_getElem hk,hz,List.set_append_right (h:=by omega),List.map_append];rw[hlen,Nat.sub_self];simp
theorem zix (v:List Int):zcV v 0=v.set 0 0:=by simp[zcV]
theorem zjV (v:List Int):zcV v v.length=cleanL v:=by
 unfold zcV cleanL;rw[List.take_of_length_le (by simp),List.drop_of_length_le (by simp)];simp
attribute [-simp] Tryz.isAgg33 Tryz.sizeOf33
theorem zb8 (w : World) (v : List Int) (hv : v.length = 65) : Calls Tryz.prog 164 #[.agg (vecV v)] w (Ret (.agg (vecV (cleanL v))) w) := by
  obtain ⟨z0, h0⟩ : ∃ z0, (vecV v)[0]? = some (.int .i64 z0) := ⟨_, zbk v 0 _ (List.getElem?_eq_getElem (by omega))⟩
  have HS := hid (fun z => zeV v 0 z)
  have HV := hid hv
  clear hv
  go_enter Tryz.func164, Tryz.ntmps164
  go_wp2_with fail
  rw [HS.out]
  have HB : Hid (Blk ((w.alloc (.cells (vecV (v.set 0 0)) 33)).alloc (.cells (vecV vec0) 33)) w.heap.size 33 (vecV (v.set 0 0))) := (Blk.new w _ _).alloc _
  have HR : Hid (Blk ((w.alloc (.cells (vecV (v.set 0 0)) 33)).alloc (.cells (vecV vec0) 33)) (w.heap.size + 1) 33 (vecV vec0)) := by
    have := Blk.new (w.alloc (.cells (vecV (v.set 0 0)) 33)) 33 (vecV vec0)
    rw [World.size_alloc] at this
    exact this
  have HE : Hid (Ext w ((w.alloc (.cells (vecV (v.set 0 0)) 33)).alloc (.cells (vecV vec0) 33))) := (Ext.alloc _ _).alloc' _
  generalize (w.alloc (.cells (vecV (v.set 0 0)) 33)).alloc (.cells (vecV vec0) 33) = w0 at HB HR HE ⊢
  simp only [Tryz.isAgg33, Tryz.sizeOf33, Result.andThen, ↓reduceIte, za HB.out 65 (by rw [ze]; exact (by rw [List.length_set]; exact HV.out))]
  rw [Oper.upon_value]
  clear h0 HS
  go_wp2_with fail
  go_loopw [7] (fun s7 wr => ∃ k : Nat, k ≤ 65 ∧ s7 = .int .i64 k ∧ Hid (Ext w wr) ∧ Hid (Blk wr w.heap.size 33 (vecV (zcV v k))) ∧ Hid (Blk wr (w.heap.size + 1) 33 (vecV vec0))) (fun s7 _ => 65 - (intOf s7).toNat)
  case atStart => exact ⟨0, by omega, rfl, HE, by rw [zix]; exact HB, HR⟩
  case round =>
    obtain ⟨k, hk, rfl, hE, hB, hR⟩ := hrel
    clear HB HR HE
    by_cases hlt : k < 65
    · have d1 : decide ((k : Int) < 65) = true := decide_eq_true (by omega)
      have d1' : decide (k < 65) = true := decide_eq_true hlt
      obtain ⟨z, hz⟩ : ∃ z, (v.set 0 0)[k]? = some z := ⟨_, List.getElem?_eq_getElem (by rw [List.length_set, HV.out]; exact hlt)⟩
      have hc := zbk _ _ _ hz
      have HN := hid (ziy hz)
      obtain ⟨y, hy⟩ : ∃ y, (zcV v k)[k]? = some y := ⟨_, List.getElem?_eq_getElem (by rw [zgJ, HV.out]; exact hlt)⟩
      have c0 := hB.out.cell (zbk _ _ _ hy)
      have z0 := hB.out.frozen k
      have l0 := hB.out.lt
      have hix := fun W => zdk (v.set 0 0) k z hlt hz W
      clear hz hy
      go_wp2_with fail
      go_roundw
      case rel => exact ⟨k + 1, by omega, by go_num, hE.out.setCell' (p := ⟨w.heap.size, k, none⟩) (Nat.le_refl _) _, by
          have := hB.out.set k (.int .i64 (max z 0))
          rw [zeV, HN.out] at this
          exact this, hR.out.far (p := ⟨w.heap.size, k, none⟩) (by show w.heap.size + 1 ≠ w.heap.size; omega) _⟩
      case measure => simp [intOf]; omega
    · obtain rfl : k = 65 := by omega
      rw [← HV.out, zjV] at hB
      have HL : Hid ((cleanL v).length = 65) := by unfold Hid; rw [zaq]; exact HV.out
      clear hlt hk HV
      go_wp2_with fail
      simp only [Tryz.isAgg33, Tryz.sizeOf33, Result.andThen, ↓reduceIte, za hB.out 65 (by rw [ze]; exact HL.out)]
      rw [Oper.upon_value]
      go_wp2_with fail
      simp only [Tryz.sizeOf33, Result.andThen, ↓reduceIte, zb hR.out (by rw [ze, HL.out]; exact zN) (by rw [ze, ze, HL.out]; exact (by rfl)) (zaf _), show (vecV _).size = 65 from (ze _).trans HL.out]
      rw [Oper.upon_skip]
      go_wp2_with fail
      have HF := hid (hR.out.setRow (vecV (cleanL v)))
      exact bodyPost_ret (results_cell_row rfl _ _ (w.heap.size + 1) 33 _ (0, 0) _ rfl HF.out Tryz.underlying33 rfl (by rw [ze, HL.out]; exact zN)) rfl ⟨rfl, Ext.setRow hE.out (by omega) _⟩
end
section
open Go.RowKit
structure MsgC where
 kind:Int
 s1:Int
 s2:Int
 s3:Int
 r1:Int
 r2:Int
 r3:Int
 up:Bool
 f:SlV
 k1:SlV
 k2:SlV
 held:SlV
 seq:Int
 last:Bool
 ents:SlV
 V:List Int
 A:List Int
 not:SlV
 code:Int
 hV:V.length=65
 hA:A.length=65
def MsgC.head (m:MsgC):List Value:=[.int .i64 m.kind,.int .i64 m.s1,.int .i64 m.s2,.int .i64 m.s3,.int .i64 m.r1,.int .i64 m.r2,.int .i64 m.r3,.bool m.up,m.f.val,m.k1.val,m.k2.val,m.held.val,.int .i64 m.seq,.bool m.last,m.ents.val]
def MsgC.list (m:MsgC):List Value:=m.head++(intsV m.V++(intsV m.A++[m.not.val,.int .i64 m.code]))
def MsgC.arr (m:MsgC):Array Value:=m.list.toArray
theorem zaN (m:MsgC):m.head.length=15:=rfl
theorem msg_len (m:MsgC):m.list.length=147:=by
 unfold MsgC.list;rw[List.length_append,List.length_append,List.length_append,zG,zG,m.hV,m.hA,zaN];rfl
theorem zy (m:MsgC):m.arr.size=147:=by unfold MsgC.arr;rw[List.size_toArray];exact msg_len m
theorem zlN (m:MsgC):∀ v∈m.list,v.oneCell'=true:=by
 intro v hv;unfold MsgC.list at hv;rcases List.mem_append.1 hv with h | h
 ·unfold MsgC.head at h
  simp only[List.mem_cons,List.not_mem_nil,or_false] at h;rcases h with rfl | rfl | rfl | rfl | rfl | rfl | rfl | rfl | rfl | rfl | rfl | rfl | rfl | rfl | rfl <;> rfl
 rcases List.mem_append.1 h with h | h
 ·exact intsV_one _ v h
 rcases List.mem_append.1 h with h | h
 ·exact intsV_one _ v h
 ·simp only[List.mem_cons,List.not_mem_nil,or_false] at h
  rcases h with rfl | rfl <;> rfl
theorem zZ (m:MsgC):m.arr.all (·.oneCell')=true:=all_oneCell_toArray (zlN m)
theorem zz:(Tryz.prog.info? 36).map (·.size)=some 147:=by kernel_rfl
def msgZ:MsgC:=⟨0,0,0,0,0,0,0,false,nilS,nilS,nilS,nilS,0,false,nilS,vec0,vec0,nilS,0,by simp[vec0],by simp[vec0]⟩
theorem zbD (m:MsgC) (j:Nat) (v:Value) (h:(intsV m.V)[j]? = some v):m.arr[15+j]? = some v:=by
 have hj:=(List.getElem?_eq_some_iff.1 h).1;unfold MsgC.arr MsgC.list;rw[List.getElem?_toArray,List.getElem?_append_right (by rw[zaN];omega),zaN,show 15+j-15=j by omega,List.getElem?_append_left hj];exact h
theorem zbE (m:MsgC) (j:Nat) (v:Value) (h:(intsV m.A)[j]? = some v):m.arr[80+j]? = some v:=by
 have hj:=(List.getElem?_eq_some_iff.1 h).1;unfold MsgC.arr MsgC.list;rw[List.getElem?_toArray,List.getElem?_append_right (by rw[zaN];omega),zaN,List.getElem?_append_right (by rw[zG,m.hV];omega),zG,m.hV,show 80+j-15-65=j by omega,List.getElem?_append_left hj];exact h
theorem zad (m:MsgC) (j:Nat):m.arr[145+j]? = ([m.not.val,.int .i64 m.code]:List Value)[j]?:=by
 unfold MsgC.arr MsgC.list;rw[List.getElem?_toArray,List.getElem?_append_right (by rw[zaN];omega),zaN,List.getElem?_append_right (by rw[zG,m.hV];omega),zG,m.hV,List.getElem?_append_right (by rw[zG,m.hA];omega),zG,m.hA,show 145+j-15-65-65=j by omega]
theorem zP (m:MsgC) (j:Nat) (hj:j<15):m.arr[j]? = m.head[j]?:=by
 unfold MsgC.arr MsgC.list;rw[List.getElem?_toArray,List.getElem?_append_left (by rw[zaN];exact hj)]
theorem zaI {w:World} {b off:Nat} {cs:Array Value} (hz:cs.size=147) (h:∀ (j:Nat) v,cs[j]? = some v→w.cell? ⟨b,off+j,none⟩=some v):(loadVar 36 ⟨b,off,none⟩).run Tryz.prog w=.ok (.agg cs) w:=by
 have:=run_loadVar_mid (P:=Tryz.prog) w b off 36 cs.toList _ (fun j v hv=>h j v (by simpa using hv)) Tryz.underlying36 rfl (by rw[Array.length_toList,hz];exact zz);simpa using this
end
section
open Go.RowKit
theorem zcR (a b:List Int) (w:World):∀ is:List Nat,(∀ i∈is,i<a.length∧i<b.length)→(Op.eqItems 9999 3 1 (vecV a) (vecV b) is).run Tryz.prog w=.ok (decide (∀ i∈is,a[i]? = b[i]?)) w
 | [],_=>by simp[Op.eqItems]
 | i::is,h=>by
  obtain⟨h1,h2⟩:=h i (by simp);have ih:=zcR a b w is (fun j hj=>h j (by simp[hj]));have e1:a[i]? = some a[i]:=List.getElem?_eq_getElem h1;have e2:b[i]? = some b[i]:=List.getElem?_eq_getElem h2;have g1:=zbk a i _ e1;have g2:=zbk b i _ e2;generalize a[i]=x at e1 g1;generalize b[i]=y at e2 g2;by_cases hxy:x=y
  ·subst hxy
   simp[Op.eqItems,part,g1,g2,go_sem,ih,e1,e2]
  ·simp[Op.eqItems,part,g1,g2,go_sem,e1,e2,hxy]
theorem zay (a b:List Int) (ha:a.length=65) (hb:b.length=65) (w:World):(Op.equalIn 10000 33 (.agg (vecV a)) (.agg (vecV b))).run Tryz.prog w=.ok (decide (a=b)) w:=by
 have hi0:(Tryz.prog.info? 3).map (fun i=>(i.size))=some 1:=by kernel_rfl
 obtain⟨i,hi,he⟩:=Option.map_eq_some_iff.1 hi0;have hc:Tryz.prog.cellsOf 3=1:=by kernel_rfl
 rw[run_equalIn_array w 9999 (vecV a) (vecV b) Tryz.underlying33 hi,hc];rw[zcR a b w (List.range 65) (fun i hi=>by rw[ha,hb];simpa using hi)];have:(∀ i∈List.range 65,a[i]? = b[i]?)↔a=b:=by
  constructor
  ·intro h
   apply List.ext_getElem?;intro i;by_cases hi:i<65
   ·exact h i (by simpa using hi)
   ·rw[List.getElem?_eq_none (by omega),List.getElem?_eq_none (by omega)]
  ·rintro rfl i _;rfl
 rw[decide_eq_decide.2 this]
theorem quiet_load {P:Program} {o:Oper} {T:TypeId} {x:Operand} {g:Nat} {cs:Array Value} {a:Act} {C:World→Prop} {K:Act→Prop} (hop:o.op=.load T x) (hx:a.eval x=.pointer (some ⟨g,0,none⟩)) (hC:∀ w,C w→Blk w g T cs) (hld:∀ w,Blk w g T cs→(loadVar T ⟨g,0,none⟩).run P w=.ok (.agg cs) w) (hK:K (a.put o.dst (.agg cs))):o.quiet P a C K:=by
 refine⟨.agg cs,fun w hw=>?_,hK⟩;have h1:=hld w (hC w hw);simp only[Oper.quietAt,execOp,hop,hx,Instr.loadAt,Instr.sureAddr,Sem.run_bind,Sem.run_pure,Result.andThen,h1];exact⟨rfl,rfl⟩
theorem zlb {w:World} {g:Nat} {v:List Int} (hv:v.length=65) (h:Blk w g 33 (vecV v)):(loadVar 33 ⟨g,0,none⟩).run Tryz.prog w=.ok (.agg (vecV v)) w:=
 run_loadVar_row w g 33 33 _ (0,0) _ h Tryz.underlying33 rfl (by rw[ze,hv];exact zN)
end
section
open Go.RowKit
def addL (v:List Int) (x:Ver):List Int:=if zD x then(cleanL v).set x.by_.toNat (max ((cleanL v).getD x.by_.toNat 0) x.n) else cleanL v
theorem zio (v:List Int) (x:Ver):(addL v x).length=v.length:=by
 unfold addL
 split
 ·rw[List.length_set,zaq]
 ·exact zaq v
attribute [-simp] Tryz.isAgg33 Tryz.sizeOf33
theorem zmz (w:World) (v:List Int) (xb xn:Int) (hv:v.length=65) (hr:zD ⟨xb,xn⟩=false):Calls Tryz.prog 160 #[.agg (vecV v),.agg #[.int .i64 xb,.int .i64 xn]] w (Ret (.agg (vecV (cleanL v))) w):=by
 have HC:=fun W=>hid (zb8 W v hv);have HK:=fun W=>hid (zbx ⟨xb,xn⟩ W);have HB0:=hid (((Blk.new w 33 (vecV v)).alloc (.cells #[.int .i64 xb,.int .i64 xn] 51)).alloc (.cells (vecV vec0) 33));have HX0:=hid ((Blk.new (w.alloc (.cells (vecV v) 33)) 51 #[.int .i64 xb,.int .i64 xn]).alloc (.cells (vecV vec0) 33));have HR0:=hid (Blk.new ((w.alloc (.cells (vecV v) 33)).alloc (.cells #[.int .i64 xb,.int .i64 xn] 51)) 33 (vecV vec0));have HE0:=hid (((Ext.alloc w (.cells (vecV v) 33)).alloc' (.cells #[.int .i64 xb,.int .i64 xn] 51)).alloc' (.cells (vecV vec0) 33));simp only[World.size_alloc] at HX0 HR0;have HV:=hid hv
 have HL:Hid ((cleanL v).length=65):=by unfold Hid;rw[zaq];exact hv
 unfold Ver.val at HK;clear hv;rw[zcG hr] at HK;clear hr;go_enter Tryz.func160,Tryz.ntmps160;go_wp2_with fail
 generalize ((w.alloc (.cells (vecV v) 33)).alloc (.cells #[.int .i64 xb,.int .i64 xn] 51)).alloc (.cells (vecV vec0) 33)=w0 at HB0 HX0 HR0 HE0⊢;simp only[Tryz.isAgg33,Tryz.sizeOf33,Result.andThen,↓reduceIte,za HB0.out 65 (by rw[ze];exact HV.out)];rw[Oper.upon_value];go_wp2_with fail
 refine((HC _).out).mono ?_;rintro en w1 ⟨rfl,x1⟩;have HB1:=hid (HB0.out.ext x1);have HX1:=hid (HX0.out.ext x1);have HR1:=hid (HR0.out.ext x1);have HE1:=hid (HE0.out.trans x1);clear x1 HB0 HX0 HR0 HE0;go_wp2_with fail
 simp only[Tryz.sizeOf33,Result.andThen,↓reduceIte,zb HB1.out (by rw[ze,HL.out];exact zN) (by rw[ze,ze,HL.out];exact HV.out) (zaf _),show(vecV _).size=65 from(ze _).trans HL.out];rw[Oper.upon_skip];have HB2:=hid (HB1.out.setRow (vecV (cleanL v)));have HX2:=hid (HX1.out.farRow (k:=w.heap.size) (by omega) (vecV (cleanL v)));have HR2:=hid (HR1.out.farRow (k:=w.heap.size) (by omega) (vecV (cleanL v)));have HE2:=hid (HE1.out.setRow (Nat.le_refl _) (vecV (cleanL v)));generalize w1.setRow w.heap.size (vecV (cleanL v))=w2 at HB2 HX2 HR2 HE2⊢;clear HB1 HX1 HR1 HE1
 have a0:=HX2.out.cell (i:=0) (v:=.int .i64 xb) rfl;have a1:=HX2.out.cell (i:=1) (v:=.int .i64 xn) rfl;have la:=HX2.out.lt;go_wp2_with fail
 clear a0 a1 la;refine((HK _).out).mono ?_;rintro en w3 ⟨rfl,x3⟩;have HB3:=hid (HB2.out.ext x3);have HX3:=hid (HX2.out.ext x3);have HR3:=hid (HR2.out.ext x3);have HE3:=hid (HE2.out.trans x3);clear x3 HB2 HX2 HR2 HE2 HK HC;go_wp2_with fail
 simp only[Tryz.isAgg33,Tryz.sizeOf33,Result.andThen,↓reduceIte,za HB3.out 65 (by rw[ze];exact HL.out)];rw[Oper.upon_value];go_wp2_with fail
 simp only[Tryz.sizeOf33,Result.andThen,↓reduceIte,zb HR3.out (by rw[ze,HL.out];exact zN) (by rw[ze,ze,HL.out];exact(by rfl)) (zaf _),show(vecV _).size=65 from(ze _).trans HL.out];rw[Oper.upon_skip];go_wp2_with fail
 have HF:=hid ((HR3.out).setRow (vecV (cleanL v)));exact bodyPost_ret (results_cell_row rfl _ _ (w.heap.size+1+1) 33 _ (0,0) _ rfl HF.out Tryz.underlying33 rfl (by rw[ze,HL.out];exact zN)) rfl ⟨rfl,Ext.setRow HE3.out (by omega) _⟩
theorem zk8 (w:World) (v:List Int) (k:Nat) (xn:Int) (hv:v.length=65) (hr:zD ⟨k,xn⟩=true):Calls Tryz.prog 160 #[.agg (vecV v),.agg #[.int .i64 k,.int .i64 xn]] w (Ret (.agg (vecV ((cleanL v).set k (max ((cleanL v).getD k 0) xn)))) w):=by
 have hk65:k<65:=by unfold zD at hr;simp only[decide_eq_true_eq] at hr;omega
 have HC:=fun W=>hid (zb8 W v hv);have HK:=fun W=>hid (zbx ⟨(k:Int),xn⟩ W);have HB0:=hid (((Blk.new w 33 (vecV v)).alloc (.cells #[.int .i64 (k:Int),.int .i64 xn] 51)).alloc (.cells (vecV vec0) 33));have HX0:=hid ((Blk.new (w.alloc (.cells (vecV v) 33)) 51 #[.int .i64 (k:Int),.int .i64 xn]).alloc (.cells (vecV vec0) 33));have HR0:=hid (Blk.new ((w.alloc (.cells (vecV v) 33)).alloc (.cells #[.int .i64 (k:Int),.int .i64 xn] 51)) 33 (vecV vec0));have HE0:=hid (((Ext.alloc w (.cells (vecV v) 33)).alloc' (.cells #[.int .i64 (k:Int),.int .i64 xn] 51)).alloc' (.cells (vecV vec0) 33));simp only[World.size_alloc] at HX0 HR0;have HV:=hid hv
 have HL:Hid ((cleanL v).length=65):=by unfold Hid;rw[zaq];exact hv
 unfold Ver.val at HK;clear hv;rw[zbW hr] at HK;clear hr;go_enter Tryz.func160,Tryz.ntmps160;go_wp2_with fail
 generalize ((w.alloc (.cells (vecV v) 33)).alloc (.cells #[.int .i64 (k:Int),.int .i64 xn] 51)).alloc (.cells (vecV vec0) 33)=w0 at HB0 HX0 HR0 HE0⊢;simp only[Tryz.isAgg33,Tryz.sizeOf33,Result.andThen,↓reduceIte,za HB0.out 65 (by rw[ze];exact HV.out)];rw[Oper.upon_value];go_wp2_with fail
 refine((HC _).out).mono ?_;rintro en w1 ⟨rfl,x1⟩;have HB1:=hid (HB0.out.ext x1);have HX1:=hid (HX0.out.ext x1);have HR1:=hid (HR0.out.ext x1);have HE1:=hid (HE0.out.trans x1);clear x1 HB0 HX0 HR0 HE0;go_wp2_with fail
 simp only[Tryz.sizeOf33,Result.andThen,↓reduceIte,zb HB1.out (by rw[ze,HL.out];exact zN) (by rw[ze,ze,HL.out];exact HV.out) (zaf _),show(vecV _).size=65 from(ze _).trans HL.out];rw[Oper.upon_skip];have HB2:=hid (HB1.out.setRow (vecV (cleanL v)));have HX2:=hid (HX1.out.farRow (k:=w.heap.size) (by omega) (vecV (cleanL v)));have HR2:=hid (HR1.out.farRow (k:=w.heap.size) (by omega) (vecV (cleanL v)));have HE2:=hid (HE1.out.setRow (Nat.le_refl _) (vecV (cleanL v)));generalize w1.setRow w.heap.size (vecV (cleanL v))=w2 at HB2 HX2 HR2 HE2⊢;clear HB1 HX1 HR1 HE1
 have a0:=HX2.out.cell (i:=0) (v:=.int .i64 (k:Int)) rfl;have a1:=HX2.out.cell (i:=1) (v:=.int .i64 xn) rfl;have la:=HX2.out.lt;go_wp2_with fail
 clear a0 a1 la;refine((HK _).out).mono ?_;rintro en w3 ⟨rfl,x3⟩;have HB3:=hid (HB2.out.ext x3);have HX3:=hid (HX2.out.ext x3);have HR3:=hid (HR2.out.ext x3);have HE3:=hid (HE2.out.trans x3);clear x3 HB2 HX2 HR2 HE2 HK HC;go_wp2_with fail
 have dk:decide ((k:Int)<65)=true:=decide_eq_true (by omega);obtain⟨z,hz⟩:∃ z,(cleanL v)[k]? = some z:=⟨_,List.getElem?_eq_getElem (by rw[HL.out];exact hk65)⟩
 have hg:(cleanL v).getD k 0=z:=by rw[List.getD_eq_getElem?_getD,hz];rfl
 have HG:=hid hg;have HW:Hid (((cleanL v).set k (max z xn)).length=65):=by unfold Hid;rw[List.length_set];exact HL.out
 have HS:=hid (zeV (cleanL v) k (max z xn));have c0:=HB3.out.cell (zbk _ _ _ hz);have z0:=HB3.out.frozen k;have lb:=HB3.out.lt;have a0:=HX3.out.cell (i:=0) (v:=.int .i64 k) rfl;have a1:=HX3.out.cell (i:=1) (v:=.int .i64 xn) rfl;have la:=HX3.out.lt;have CZ:=hid (zbk _ _ _ hz);clear hz hg;refine zcb (Rel.ext) (pre:=?pre17) (z:=?z17) ?hpre17 ?hz17 (Ext.steady _) (by kernel_rfl) (by kernel_rfl) (by kernel_rfl) (by kernel_rfl) ?_
 case hpre17=>(simp only[List.dropLast_cons_cons,List.dropLast_singleton];first | done | exact rfl)
 case hz17=>(simp only[List.getLast?_cons_cons,List.getLast?_singleton];first | done | exact rfl)
 repeat (first
  | (refine AWq.val rfl rfl rfl rfl (fun K hK=>?_);go_big_quiet_op;refine hK _ ?_;clear hK K)
  | (refine AWq.skip rfl rfl rfl ?_;simp only[Act.put,zq6,zq7,zq8]))
 refine AWq.last rfl rfl rfl (fun w4 x4=>?_);simp only[zl,Act.put,zq6,zq7,zq8];have HB4:=hid (HB3.out.ext x4);have HR4:=hid (HR3.out.ext x4);have HE4:=hid (HE3.out.trans x4);clear c0 z0 lb a0 a1 la HB3 HX3 HR3 HE3 x4;have z0:=HB4.out.frozen k;have c0:=HB4.out.cell CZ.out;have lb:=HB4.out.lt;go_wp2_with fail
 have HBs:=hid (HB4.out.set k (.int .i64 (max z xn)));rw[HS.out] at HBs;have HRs:=hid (HR4.out.far (p:=⟨w.heap.size,k,none⟩) (by show w.heap.size+1+1≠w.heap.size;omega) (.int .i64 (max z xn)));have HEs:=hid (HE4.out.setCell' (p:=⟨w.heap.size,k,none⟩) (Nat.le_refl _) (.int .i64 (max z xn)));clear HB4 HR4 HE4 c0 z0 lb CZ;generalize w4.setCell ⟨w.heap.size,k,none⟩ (.int .i64 (max z xn))=w5 at HBs HRs HEs⊢;go_wp2_with fail
 simp only[Tryz.isAgg33,Tryz.sizeOf33,Result.andThen,↓reduceIte,za HBs.out 65 (by rw[ze];exact HW.out)];rw[Oper.upon_value];go_wp2_with fail
 simp only[Tryz.sizeOf33,Result.andThen,↓reduceIte,zb HRs.out (by rw[ze,HW.out];exact zN) (by rw[ze,ze,HW.out];exact(by rfl)) (zaf _),show(vecV _).size=65 from(ze _).trans HW.out];rw[Oper.upon_skip];go_wp2_with fail
 have HF:=hid ((HRs.out).setRow (vecV ((cleanL v).set k (max z xn))));exact bodyPost_ret (results_cell_row rfl _ _ (w.heap.size+1+1) 33 _ (0,0) _ rfl HF.out Tryz.underlying33 rfl (by rw[ze,HW.out];exact zN)) rfl ⟨(by rw[HG.out]),Ext.setRow HEs.out (by omega) _⟩
theorem add13_c (w:World) (v:List Int) (x:Ver) (hv:v.length=65):Calls Tryz.prog 160 #[.agg (vecV v),.agg #[.int .i64 x.by_,.int .i64 x.n]] w (Ret (.agg (vecV (addL v x))) w):=by
 obtain⟨xb,xn⟩:=x;unfold addL;cases hr:zD ⟨xb,xn⟩ with
 | false=>exact zmz w v xb xn hv hr
 | true=>
  have hb:1≤xb:=by unfold zD at hr;simp only[decide_eq_true_eq] at hr;omega
  obtain⟨k,rfl⟩:∃ k:Nat,xb=k:=⟨xb.toNat,by omega⟩
  exact zk8 w v k xn hv hr
end
section
open Go.RowKit
def ofL (l:List Ver):List Int:=l.foldl addL vec0
theorem zgZ (l:List Ver):∀ v:List Int,(l.foldl addL v).length=v.length:=by
 induction l with
 | nil=>intro v;rfl
 | cons x l ih=>intro v;rw[List.foldl_cons,ih,zio]
theorem zcM (l:List Ver):(ofL l).length=65:=by unfold ofL;rw[zgZ];simp[vec0]
theorem zlJ {l:List Ver} {k:Nat} (h:k<l.length):ofL (l.take (k+1))=addL (ofL (l.take k)) l[k]:=by
 unfold ofL;rw[List.take_succ_eq_append_getElem h,List.foldl_append];rfl
attribute [-simp] Tryz.isAgg33 Tryz.sizeOf33
theorem of13_c (w:World) (v:Value) (l:List Ver) (h:Sl w 2 v (l.map Ver.cells)):Calls Tryz.prog 128 #[v] w (Ret (.agg (vecV (ofL l))) w):=by
 obtain⟨A,c,rfl,h1,h2,h3⟩:=zr h;unfold maxLen at h2;have HA:=fun W v x hv=>hid (add13_c W v x hv);have HR0:=hid ((Blk.new w 33 (vecV vec0)).alloc (.cells (vecV vec0) 33));have HB0:=hid (Blk.new (w.alloc (.cells (vecV vec0) 33)) 33 (vecV vec0));have HE0:=hid ((Ext.alloc w (.cells (vecV vec0) 33)).alloc' (.cells (vecV vec0) 33));rw[World.size_alloc] at HB0;have H3:=hid h3;clear h h3;go_enter Tryz.func128,Tryz.ntmps128;go_wp2_with fail
 generalize (w.alloc (.cells (vecV vec0) 33)).alloc (.cells (vecV vec0) 33)=w0 at HB0 HR0 HE0⊢;go_loopw [8] (fun s8 wr=>∃ k:Nat,k≤l.length∧s8=.int .i64 k∧Hid (Ext w wr)∧Hid (Blk wr (w.heap.size+1) 33 (vecV (ofL (l.take k))))∧Hid (Blk wr w.heap.size 33 (vecV vec0))) (fun s8 _=>l.length-(intOf s8).toNat)
 case atStart=>exact⟨0,by omega,rfl,HE0,HB0,HR0⟩
 case round=>
  obtain⟨k,hk,rfl,hE,hB,hR⟩:=hrel;clear HB0 HR0 HE0;by_cases hlt:k<l.length
  ·have d1:decide ((k:Int)<l.length)=true:=decide_eq_true (by omega)
   have d1':decide (k<l.length)=true:=decide_eq_true hlt;obtain⟨b,o,rfl,lb,hcell⟩:=H3.out (by omega);have c0:=hE.out.cell (hcell k hlt 0 _ rfl);have c1:=hE.out.cell (hcell k hlt 1 _ rfl);rw[Nat.add_zero] at c0;have lbr:=Nat.lt_of_lt_of_le lb hE.out.size;have HN:=hid (zlJ hlt);have HL:=hid (zcM (l.take k));clear H3 hcell;generalize l[k]=x at c0 c1 HN;have HAx:=fun W=>HA W (ofL (l.take k)) x HL.out;rw[←HN.out] at HAx;clear HN HA;have HL1:=hid (zcM (l.take (k+1)));generalize hu1:ofL (l.take (k+1))=u1 at HL1 HAx;have HU1:=hid hu1;clear hu1;generalize ofL (l.take k)=u0 at hB HL HAx
   have HB1:=hid (hB.out.ext (Ext.alloc wr (.cells #[.int .i64 x.by_,.int .i64 x.n] 51)));have HR1:=hid (hR.out.ext (Ext.alloc wr (.cells #[.int .i64 x.by_,.int .i64 x.n] 51)));have HE1:=hid (hE.out.alloc' (.cells #[.int .i64 x.by_,.int .i64 x.n] 51));clear hB hR hE;go_wp2_with fail
   simp only[Tryz.isAgg33,Tryz.sizeOf33,Result.andThen,↓reduceIte,za HB1.out 65 (by rw[ze];exact HL.out)];rw[Oper.upon_value];go_wp2_with fail
   refine((HAx _).out).mono ?_;rintro en w2 ⟨rfl,x2⟩;have HB2:=hid (HB1.out.ext x2);have HR2:=hid (HR1.out.ext x2);have HE2:=hid (HE1.out.trans x2);clear HB1 HR1 HE1 x2 c0 c1;go_wp2_with fail
   simp only[Tryz.sizeOf33,Result.andThen,↓reduceIte,zb HB2.out (by rw[ze,HL1.out];exact zN) (by rw[ze,ze,HL1.out];exact HL.out) (zaf _),show(vecV _).size=65 from(ze _).trans HL1.out];rw[Oper.upon_skip];have HB3:=hid (HB2.out.setRow (vecV u1));have HR3:=hid (HR2.out.farRow (k:=w.heap.size+1) (by omega) (vecV u1));have HE3:=hid (HE2.out.setRow (g:=w.heap.size+1) (by omega) (vecV u1));generalize w2.setRow (w.heap.size+1) (vecV u1)=w3 at HB3 HR3 HE3⊢;clear HB2 HR2 HE2;go_wp2_with fail
   go_roundw
   case rel=>exact⟨k+1,by omega,by go_num,HE3,by rw[HU1.out];exact HB3,HR3⟩
   case measure=>simp[intOf];omega
  ·obtain rfl:k=l.length:=by omega
   rw[List.take_length] at hB;have HL:=hid (zcM l);clear hlt hk HA H3;go_wp2_with fail
   simp only[Tryz.isAgg33,Tryz.sizeOf33,Result.andThen,↓reduceIte,za hB.out 65 (by rw[ze];exact HL.out)];rw[Oper.upon_value];go_wp2_with fail
   simp only[Tryz.sizeOf33,Result.andThen,↓reduceIte,zb hR.out (by rw[ze,HL.out];exact zN) (by rw[ze,ze,HL.out];exact(by rfl)) (zaf _),show(vecV _).size=65 from(ze _).trans HL.out];rw[Oper.upon_skip];go_wp2_with fail
   have HF:=hid (hR.out.setRow (vecV (ofL l)));exact bodyPost_ret (results_cell_row rfl _ _ w.heap.size 33 _ (0,0) _ rfl HF.out Tryz.underlying33 rfl (by rw[ze,HL.out];exact zN)) rfl ⟨rfl,Ext.setRow hE.out (Nat.le_refl _) _⟩
end
section
open Go.RowKit
theorem vr_coded:Coded Ver.cells 2:=⟨fun _=>rfl,fun a u hu=>by simp[Ver.cells] at hu;rcases hu with rfl | rfl <;> rfl⟩
theorem vr_info:(Tryz.prog.info? 51).map (fun i=>(i.zero,i.size,i.bytes))=some (some (.agg #[.int .i64 0,.int .i64 0]),2,16):=by kernel_rfl
theorem zjq:Elem Tryz.prog 34 51 2 16:=by
 obtain⟨i0,h0,h1,h2,h3⟩:=info_parts vr_info;exact⟨Tryz.underlying34,i0,_,h0,h1,h2,h3,rfl⟩
def endsK (u:List Int):Nat→List Ver
 | 0=>[]
 | k+1=>if 0<u.getD k 0 then endsK u k++[⟨k,u.getD k 0⟩] else endsK u k
def endsL (v:List Int):List Ver:=endsK (cleanL v) 65
theorem zel (u:List Int):∀ k,(endsK u k).length≤k
 | 0=>Nat.le_refl _
 | k+1=>by
  have:=zel u k;unfold endsK
  split
  ·rw[List.length_append];simp;omega
  ·omega
attribute [-simp] Tryz.isAgg33 Tryz.sizeOf33
theorem zmh (w:World) (v:List Int) (hv:v.length=65):Calls Tryz.prog 162 #[.agg (vecV v)] w (RetQ (RowAt Ver.cells 2 (endsL v)) w):=by
 have HC:=fun W=>hid (zb8 W v hv);have HB0:=hid (Blk.new w 33 (vecV v));have HE0:=hid (Ext.alloc w (.cells (vecV v) 33));have HL:Hid ((cleanL v).length=65):=by unfold Hid;rw[zaq];exact hv
 have HV:=hid hv;clear hv;unfold endsL;generalize cleanL v=u at HC HL⊢;go_enter Tryz.func162,Tryz.ntmps162;go_wp2_with fail
 generalize w.alloc (.cells (vecV v) 33)=w0 at HB0 HE0⊢;simp only[Tryz.isAgg33,Tryz.sizeOf33,Result.andThen,↓reduceIte,za HB0.out 65 (by rw[ze];exact HV.out)];rw[Oper.upon_value];go_wp2_with fail
 refine((HC _).out).mono ?_;rintro en w1 ⟨rfl,x1⟩;have HE1:=hid (HE0.out.trans x1);clear x1 HB0 HE0 HC HV;go_wp2_with fail
 go_loopw [3,8] (fun s3 s8 wr=>∃ (k:Nat) (ov:Value),ov=s3∧k≤65∧s8=.int .i64 k∧Ext w wr∧((endsK u k).length=0→s3=.slice none 0 0)∧wr.ownsRow w.heap.size 51 2 s3 (endsK u k).length ((endsK u k).map Ver.cells).flatten) (fun _ s8 _=>65-(intOf s8).toNat)
 case atStart=>exact⟨0,_,rfl,by omega,rfl,HE1.out,(fun _=>rfl),zp _ _ _ _⟩
 case round=>
  obtain⟨k,s3,rfl,hk,rfl,hE,hz,hO⟩:=hrel;have HE:=hid hE;have HO:=hid hO;have HZ:=hid hz;clear HE1 hE hz hO;by_cases hlt:k<65
  ·have d1:decide ((k:Int)<65)=true:=decide_eq_true (by omega)
   have d1':decide (k<65)=true:=decide_eq_true hlt;obtain⟨z,hzk⟩:∃ z,u[k]? = some z:=⟨_,List.getElem?_eq_getElem (by rw[HL.out];exact hlt)⟩
   have hix:=fun W=>zdk u k z hlt hzk W;have hg:u.getD k 0=z:=by rw[List.getD_eq_getElem?_getD,hzk];rfl
   have HM:Hid (endsK u (k+1)=if 0<z then endsK u k++[⟨k,z⟩] else endsK u k):=by unfold Hid;rw[endsK,hg]
   have hln:=zel u k;clear hg hzk;generalize endsK u k=acc at HO HZ HM hln;by_cases hp:0<z
   ·have dp:decide (0<z)=true:=decide_eq_true hp
    rw[if_pos hp] at HM;clear hp;go_wp2_with (at_builtin;obtain⟨v',w6,hrun6,ho6,hk6,_⟩:=zaJ (P:=Tryz.prog) zjq vr_coded HO.out HE.out.size (⟨k,z⟩:Ver) (by omega) (by omega);simp only[Ver.cells] at hrun6;have HE6:=hid (hk6.toExt HE.out (fun q hq=>(zt HO.out q hq).1));have HO6:=hid ho6;clear ho6 hk6;refine zx rfl (.tmp 14) (.tmp 18) _ _ rfl rfl rfl hrun6 ?_)
    go_roundw
    case rel=>exact⟨k+1,_,rfl,by omega,by go_num,HE6.out,(fun h=>by rw[HM.out] at h;simp at h),by rw[HM.out];exact HO6.out⟩
    case measure=>simp[intOf];omega
   ·have dp:decide (0<z)=false:=decide_eq_false hp
    rw[if_neg hp] at HM;clear hp;go_wp2_with fail
    go_roundw
    case rel=>exact⟨k+1,_,rfl,by omega,by go_num,HE.out,(by rw[HM.out];exact HZ.out),by rw[HM.out];exact HO.out⟩
    case measure=>simp[intOf];omega
  ·obtain rfl:k=65:=by omega
   have hrow:=RowAt.of_row vr_coded HO.out HZ.out;have HR:=hid hrow;clear hrow HO HZ hlt hk;go_wp2_with fail
   go_ret;exact⟨_,rfl,HR.out,HE.out⟩
end
section
open Go.RowKit
theorem zg0 (w:World) (s:ByteArray) (b:Bool):Calls Tryz.prog 148 #[.string s,.bool b] w (Ret (.tuple #[.string (if b=true∧s.size≠0 then s else⟨#[]⟩),.int .i64 (if b=true then(if s.size≠0 then 0 else 4) else 2)]) w):=by
 cases b with
 | false=>
  rw[if_neg (fun h=>by cases h.1),if_neg (fun h=>by cases h)];go_enter Tryz.func148,Tryz.ntmps148;go_wp2_with fail
  go_ret2;exact⟨rfl,Ext.refl _⟩
 | true=>
  rw[if_pos rfl];by_cases h0:s.size=0
  ·have hs:s=⟨#[]⟩:=ByteArray.ext (Array.eq_empty_of_size_eq_zero h0)
   subst hs;rw[if_neg (fun h=>h.2 rfl),if_neg (fun h=>h rfl)];go_enter Tryz.func148,Tryz.ntmps148;go_wp2_with fail
   go_ret2;exact⟨rfl,Ext.refl _⟩
  ·rw[if_pos ⟨rfl,h0⟩,if_pos h0]
   have d0:s.toList.isEmpty=false:=by
    cases h:s.toList.isEmpty with
    | false=>rfl
    | true=>rw[←zcc,List.isEmpty_iff.1 h] at h0;exact absurd rfl h0
   clear h0;go_enter Tryz.func148,Tryz.ntmps148;go_wp2_with fail
   go_ret2;exact⟨rfl,Ext.refl _⟩
def zaM (v:Ver):Prop:=0≤v.by_∧v.by_≤9223372036854775807∧0≤v.n∧v.n≤9223372036854775807
theorem zjr {v:Ver} (h:zaM v):(⟨(encL [fN v.by_,fN v.n]).toArray⟩:ByteArray)=verB v:=by
 apply ByteArray.ext;apply Array.ext';unfold verB;simp only[ByteArray.data_append,Array.toList_append,zu h.1,zu h.2.2.1];simp[encL,fN,FldI.enc]
theorem zbd {v:Ver} (h:zaM v):(verB v).size≤18:=zbe (by have:=h.1;have:=h.2.1;unfold in64;omega) (by have:=h.2.2.1;have:=h.2.2.2;unfold in64;omega)
theorem zhf {v:Ver} (h:zaM v):0<(verB v).size:=by
 have h1:(numB v.by_).data.toList.length=(numB v.by_).size:=by rw[Array.length_toList];rfl
 rw[zu h.1] at h1;have:=zcg v.by_.toNat;unfold verB;rw[ByteArray.size_append];omega
theorem one_c (w:World) (x:Ver) (hx:zaM x):Calls Tryz.prog 163 #[.agg #[.int .i64 x.by_,.int .i64 x.n]] w (Ret (.string (verB x)) w):=by
 have HV:=fun W=>hid (zgO W x);have hok:∀ f∈[fN x.by_,fN x.n],f.ok:=fun f hf=>by
  obtain⟨h1,h2,h3,h4⟩:=hx;simp only[List.mem_cons,List.not_mem_nil,or_false] at hf;rcases hf with rfl | rfl
  ·exact⟨Nat.zero_le _,fun _=>h1,h2⟩
  ·exact⟨Nat.zero_le _,fun _=>h3,h4⟩
 have hlen:(encL [fN x.by_,fN x.n]).length≤65536:=by
  have h1:(encL [fN x.by_,fN x.n]).length=(⟨(encL [fN x.by_,fN x.n]).toArray⟩:ByteArray).size:=rfl;have h2:=zbd hx;rw[zjr hx] at h1;omega
 have HP:=fun W v (h:Sl W 3 v ([fN x.by_,fN x.n].map FldI.cells))=>hid (zdt W v [fN x.by_,fN x.n] h hok (by simp) hlen);rw[zjr hx] at HP;have HE:=hid (Ext.alloc w (.cells #[.int .i64 x.by_,.int .i64 x.n] 51));unfold Ver.val at HV;clear hok hlen hx;generalize verB x=r at HP⊢;go_enter Tryz.func163,Tryz.ntmps163;go_wp2_with fail
 refine((HV _).out).mono ?_;rintro en w1 ⟨v,rfl,⟨ho,q,rfl⟩,x1⟩;have HS:=hid ho.sl;have HE1:=hid (HE.out.trans x1);clear x1 ho;go_wp2_with fail
 refine((HP _ _ HS.out).out).mono ?_;rintro en w2 ⟨rfl,x2⟩;have HE2:=hid (HE1.out.trans x2);clear x2;go_wp2_with fail
 go_ret;exact⟨rfl,HE2.out⟩
end
section
open Go.RowKit
theorem zfV {x:Ver} (h:zaM x):(verB x).data.toList=lebL x.by_.toNat++(lebL x.n.toNat++[]):=by
 unfold verB;rw[ByteArray.data_append,Array.toList_append,zu h.1,zu h.2.2.1,List.append_nil]
theorem zj9 {s s2:ByteArray} {e2:Int} {z1 z2:Nat} (r:zeG s 0 z1 z2 s2 e2) (x:Ver) (hx:zaM x) (hs:s=verB x):x=⟨z1,z2⟩∧endK s2 e2=0:=by
 obtain⟨h1,h2,h3,h4⟩:=hx;obtain⟨a1,a2,a3,a4⟩:=r x.by_.toNat x.n.toNat [] rfl (by omega) (by omega) (by rw[hs,zfV ⟨h1,h2,h3,h4⟩])
 constructor
 ·obtain⟨b,n⟩:=x
  dsimp only at *;rw[show(z1:Int)=b by omega,show(z2:Int)=n by omega]
 ·unfold endK
  have:s2.size=0:=by
   have h:s2.data.toList.length=s2.size:=by rw[Array.length_toList];rfl
   rw[←h,a3];rfl
  rw[if_pos a4,if_pos this]
theorem zlu (w:World) (s:ByteArray) (hs:s.size≤1000000):Calls Tryz.prog 126 #[.string s] w (fun en w'=>∃ (z1 z2:Nat) (e:Int),en=.returned (.tuple #[.agg #[.int .i64 z1,.int .i64 z2],.int .i64 e])∧z1<9223372036854775808∧z2<9223372036854775808∧Ext w w' ∧ ∀ x:Ver,zaM x→s=verB x→x=⟨z1,z2⟩∧e=0):=by
 have HO:=fun W=>hid (zbP W s);have HV:=fun W q (h':InAt W q s 0)=>hid (zdQ W q s 0 h' hs);have HEnd:=fun W q (s':ByteArray) (e':Int) (h':InAt W q s' e')=>hid (zeE W q s' e' h');have HR0:=hid (Blk.new w 51 #[.int .i64 0,.int .i64 0]);have HE0:=hid (Ext.alloc w (.cells #[.int .i64 0,.int .i64 0] 51));clear hs;go_enter Tryz.func126,Tryz.ntmps126;go_wp2_with fail
 refine((HO _).out).mono ?_;rintro en w1 ⟨v,rfl,⟨q,rfl,hq,hI⟩,x1⟩;have HI1:=hid hI;have HR1:=hid (HR0.out.ext x1);have HE1:=hid (HE0.out.trans x1);rw[World.size_alloc] at hq;have NR:Hid (¬ w.heap.size=q):=by unfold Hid;omega
 have HQ:=hid hq;clear hI x1 hq HR0 HE0 HO;go_wp2_with fail
 refine((HV _ _ HI1.out).out).mono ?_;rintro en w2 ⟨z1,z2,s2,e2,rfl,hz1,hz2,k2,h2,_,r2⟩;have Z1:=hid hz1;have Z2:=hid hz2;have RB:=hid (fun x hx hs=>zj9 r2 x hx hs);have HR2:=hid ((HR1.out.keep k2 NR.out).alloc (.cells #[.int .i64 z1,.int .i64 z2] 51));have HI2:=hid (h2.ext (Ext.alloc w2 (.cells #[.int .i64 z1,.int .i64 z2] 51)));have HU2:=hid (Blk.new w2 51 #[.int .i64 z1,.int .i64 z2]);have HE2:Hid (Ext w w2):=Ext.of_below (((Keep.of_ext (S:=fun g=>g=q) HE1.out).trans k2).below (Nat.le_refl _) fun k hk=>by have:=HQ.out;omega);have HE3:=hid (HE2.out.alloc' (.cells #[.int .i64 z1,.int .i64 z2] 51))
 have HG:Hid (w.heap.size<w2.heap.size):=(HR1.out.keep k2 NR.out).lt;clear hz1 hz2 k2 h2 r2 HI1 HR1 HE1 HV HE2;go_wp2_with fail
 generalize w2.alloc (.cells #[.int .i64 z1,.int .i64 z2] 51)=w3 at HR2 HI2 HU2 HE3⊢;have u0:=HU2.out.cell (i:=0) (v:=.int .i64 z1) rfl;have u1:=HU2.out.cell (i:=1) (v:=.int .i64 z2) rfl;have ul:=HU2.out.lt;refine zbw (pre:=?pre21) (tl:=?tl21) 3 ?hpre21 ?htl21 (of_decide_eq_true (by kernel_rfl)) (by kernel_rfl) (by kernel_rfl) (by kernel_rfl) (by kernel_rfl) ?_
 case hpre21=>(simp only[List.take_succ_cons,List.take_zero];first | done | exact rfl)
 case htl21=>(simp only[List.drop_succ_cons,List.drop_zero];first | done | exact rfl)
 repeat (first
  | (refine AWq.val rfl rfl rfl rfl (fun K hK=>?_);go_big_quiet_op;refine hK _ ?_;clear hK K)
  | (refine AWq.skip rfl rfl rfl ?_;simp only[Act.put,zq6,zq7,zq8])
  | (refine AWq.call rfl Tryz.func113 (by kernel_rfl) (by kernel_rfl) rfl rfl rfl ?_;apply Exists.intro;refine And.intro (fun wc hc=>?_) ?_;(· (simp only[zh,zm,↓reduceIte,Nat.reduceEqDiff,zq1,zq2,zq3,zq4,zq5];with_reducible exact(HEnd _ _ _ _ (HI2.out.ext hc)).out));simp only[Act.put,zq6,zq7,zq8]))
 refine AWq.tail rfl rfl rfl (fun w4 x4=>?_);simp only[zl,Act.put,zq6,zq7,zq8];clear u0 u1 ul;have HR4:=hid (HR2.out.ext x4);have HE4:=hid (HE3.out.trans x4);have r0:=HR4.out.cell (i:=0) (v:=.int .i64 0) rfl;have r1:=HR4.out.cell (i:=1) (v:=.int .i64 0) rfl;have q0:=HR4.out.frozen 0;have q1:=HR4.out.frozen 1;have rl:=HR4.out.lt;clear HU2 HI2 HR2 HE3 x4 HEnd;go_wp2_with fail
 have HF:Hid (Blk _ w.heap.size 51 #[.int .i64 z1,.int .i64 z2]):=(HR4.out.set 0 (.int .i64 z1)).set 1 (.int .i64 z2);refine bodyPost_ret (zi rfl _ _ w.heap.size 51 _ (0,0) _ rfl HF.out Tryz.underlying51 rfl (show(Tryz.prog.info? 51).map (·.size)=some 2 by kernel_rfl)) rfl ?_;exact⟨z1,z2,endK s2 e2,rfl,Z1.out,Z2.out,(HE4.out.setCell' (p:=⟨w.heap.size,0,none⟩) (Nat.le_refl _) _).setCell' (p:=⟨w.heap.size,1,none⟩) (Nat.le_refl _) _,RB.out⟩
end
section
open Go.RowKit
theorem listV_c (w:World) (v:Value) (l:List Ver) (enc:Ver→ByteArray) (h:Sl w 2 v (l.map Ver.cells)) (hl:l.length≤100000) (hone:∀ x∈l,∀ W,Ext w W→Calls Tryz.prog 163 #[.agg #[.int .i64 x.by_,.int .i64 x.n]] W (Ret (.string (enc x)) W)) (hpos:∀ x∈l,0<(enc x).size∧(enc x).size≤65536) (htot:(encL (fN l.length::l.map (fun x=>fT (enc x)))).length≤65536):Calls Tryz.prog 161 #[v,.func (.func 163) #[] #[]] w (Ret (.string ⟨(encL (fN l.length::l.map (fun x=>fT (enc x)))).toArray⟩) w):=by
 obtain⟨A,c,rfl,h1,h2,h3⟩:=zr h;unfold maxLen at h2;have HN:=fun W n=>hid (fN_c W n);have HT:=fun W s=>hid (fT_c W s);have HOne:=hid hone;have HPos:=hid hpos;have HP:=fun W u (h:Sl W 3 u ((fN l.length::l.map (fun x=>fT (enc x))).map FldI.cells))=>hid (zdt W u (fN l.length::l.map (fun x=>fT (enc x))) h (fun f hf=>by
  rcases List.mem_cons.1 hf with rfl | hf
  ·exact⟨Nat.zero_le _,fun _=>Int.natCast_nonneg _,by show(l.length:Int)≤_;omega⟩
  ·obtain⟨x,hx,rfl⟩:=List.mem_map.1 hf
   exact⟨(hpos x hx).2,fun h=>(by(have h:true=false:=h);cases h),by show(0:Int)≤_;omega⟩) (by simp) htot)
 have H3:=hid h3;clear h h3 hone hpos htot;go_enter Tryz.func161,Tryz.ntmps161;go_wp2_with fail
 refine((HN _ _).out).mono ?_;rintro en w1 ⟨rfl,x1⟩;have HE1:=hid x1;clear x1;have HF0:Hid (OwnF [fN l.length] w.heap.size (.slice (some ⟨w1.heap.size,0,none⟩) 1 1) (w1.alloc (.cells #[.int .i64 l.length,.string ⟨#[]⟩,.bool false] 140))):=zaH HE1.out.size 140 3 1 #[.int .i64 l.length,.string ⟨#[]⟩,.bool false] (by unfold maxLen;omega) rfl;have HE2:=hid (HE1.out.alloc' (.cells #[.int .i64 l.length,.string ⟨#[]⟩,.bool false] 140));go_wp2_with fail
 generalize w1.alloc (.cells #[.int .i64 l.length,.string ⟨#[]⟩,.bool false] 140)=w2 at HF0 HE2⊢;obtain⟨v0,hv0⟩:∃ v0,v0=Value.slice (some ⟨w1.heap.size,0,none⟩) 1 1:=⟨_,rfl⟩
 go_loopw [5,15] (fun s5 s15 wr=>∃ (k:Nat) (ov:Value),ov=s5∧k≤l.length∧s15=.int .i64 k∧Hid (Ext w wr)∧Hid (OwnF (fN l.length::(l.take k).map (fun x=>fT (enc x))) w.heap.size s5 wr)) (fun _ s15 _=>l.length-(intOf s15).toNat)
 case atStart=>exact⟨0,_,rfl,by omega,rfl,HE2,HF0⟩
 case round=>
  obtain⟨k,s5,rfl,hk,rfl,hE,hO⟩:=hrel;clear HF0 HE2 HE1 hv0 HN;by_cases hlt:k<l.length
  ·have d1:decide ((k:Int)<l.length)=true:=decide_eq_true (by omega)
   have d1':decide (k<l.length)=true:=decide_eq_true hlt;obtain⟨b,o,rfl,lb,hcell⟩:=H3.out (by omega);have c0:=hE.out.cell (hcell k hlt 0 _ rfl);have c1:=hE.out.cell (hcell k hlt 1 _ rfl);rw[Nat.add_zero] at c0;have lbr:=Nat.lt_of_lt_of_le lb hE.out.size;have HM:Hid ((l.take (k+1)).map (fun x=>fT (enc x))=(l.take k).map (fun x=>fT (enc x))++[fT (enc l[k])]):=by
    unfold Hid;rw[List.take_succ_eq_append_getElem hlt,List.map_append];rfl
   have HC:=HOne.out l[k] (List.getElem_mem hlt);have hp:=(HPos.out l[k] (List.getElem_mem hlt)).1;have hlen:((l.take k).map (fun x=>fT (enc x))).length≤100000:=by rw[List.length_map,List.length_take];omega
   clear H3 hcell HOne HPos HP;generalize hacc1:(l.take (k+1)).map (fun x=>fT (enc x))=acc1 at HM;have HA1:=hid hacc1;clear hacc1;generalize hacc:(l.take k).map (fun x=>fT (enc x))=acc at hO HM hlen;clear hacc;generalize l[k]=x at c0 c1 HC HM hp;have d0:(enc x).toList.isEmpty=false:=by
    cases h:(enc x).toList.isEmpty with
    | false=>rfl
    | true=>rw[←zcc,List.isEmpty_iff.1 h] at hp;exact absurd hp (by decide)
   clear hp;generalize enc x=r at HC HM d0;go_wp2_with fail
   refine(HC _ (hE.out.alloc' _)).mono ?_;rintro en w3 ⟨rfl,x3⟩;have hO3:=hid (hO.out.ext ((Ext.alloc _ _).trans x3));have hE3:=hid (hE.out.trans ((Ext.alloc _ _).trans x3));clear x3 c0 c1 lbr lb hE hO HC;go_wp2_with fail
   refine((HT _ _).out).mono ?_;rintro en w4 ⟨rfl,x4⟩;have hO4:=hid (hO3.out.ext x4);have hE4:=hid (hE3.out.trans x4);clear x4 hO3 hE3;obtain⟨v',w6,hrun6,ho6,hk6,_⟩:=zaJ (P:=Tryz.prog) zbF fld_coded hO4.out hE4.out.size (fT r) (by simp;omega) (by omega);simp only[FldI.cells,fT] at hrun6;have HE6:=hid (hk6.toExt hE4.out (fun q hq=>(zt hO4.out q hq).1));have HO6:Hid (OwnF (fN l.length::acc1) w.heap.size v' w6):=by
    rw[HM.out];exact ho6
   clear ho6 hk6;go_wp2_with (at_builtin;refine zx rfl (.tmp 24) (.tmp 27) _ _ rfl rfl rfl hrun6 ?_)
   go_roundw
   case rel=>exact⟨k+1,_,rfl,by omega,by go_num,HE6,by rw[HA1.out];exact HO6⟩
   case measure=>simp[intOf];omega
  ·obtain rfl:k=l.length:=by omega
   rw[List.take_length] at hO;have HS:=hid hO.out.sl;clear hlt hk H3 HOne HPos hO HT;go_wp2_with fail
   refine((HP _ _ HS.out).out).mono ?_;rintro en w7 ⟨rfl,x7⟩;have HE7:=hid (hE.out.trans x7);clear x7;go_wp2_with fail
   go_ret;exact⟨rfl,HE7.out⟩
end
section
open Go.RowKit
def zg {α:Type} (enc:α→ByteArray) (l:List α):ByteArray:=⟨(encL (fN l.length::l.map (fun x=>fT (enc x)))).toArray⟩
theorem zah (f:FldI) (l:List FldI):encL (f::l)=f.enc++encL l:=by simp[encL]
theorem zh0 {α:Type} (enc:α→ByteArray) (B:Nat) (hB:B<9223372036854775808):∀ l:List α,(∀ x∈l,(enc x).size≤B)→(encL (l.map fun x=>fT (enc x))).length≤(9+B)*l.length
 | [],_=>by simp[encL]
 | x::l,h=>by
  have ih:=zh0 enc B hB l (fun y hy=>h y (by simp[hy]));have hx:=h x (by simp);have h1:(fT (enc x)).enc.length=(lebL (enc x).size).length+(enc x).size:=by
   show(lebL (enc x).size++(enc x).data.toList).length=_
   rw[List.length_append,Array.length_toList];rfl
  have h2:=zb1 (n:=(enc x).size) (by omega);rw[List.map_cons,zah,List.length_append,h1,List.length_cons,Nat.mul_add];omega
theorem zdW {α:Type} (enc:α→ByteArray):∀ l:List α,l.length≤(encL (l.map fun x=>fT (enc x))).length
 | []=>Nat.zero_le _
 | x::l=>by
  have ih:=zdW enc l;have h1:(fT (enc x)).enc.length=(lebL (enc x).size).length+(enc x).size:=by
   show(lebL (enc x).size++(enc x).data.toList).length=_
   rw[List.length_append,Array.length_toList];rfl
  have h2:=zcg (enc x).size;rw[List.map_cons,zah,List.length_append,h1,List.length_cons];omega
theorem zdG {w w':World} {B sz:Nat} {e:TypeId} {v:Value} {n:Nat} {cs:List Value} {S:Nat→Prop} (h:w.ownsRow B e sz v n cs) (hk:Keep S w w') (hS:∀ g,S g→g<B):w'.ownsRow B e sz v n cs:=by
 obtain⟨h1,h2⟩:=h;refine⟨h1,?_⟩;rcases h2 with h2 | ⟨g,cap,cells,a1,a2,a3,a4,a5,a6,a7⟩
 ·exact .inl h2
 ·exact .inr ⟨g,cap,cells,a1,a2,(hk.block g (by
   rcases Nat.lt_or_ge g w.heap.size with hlt | hge
   ·exact hlt
   ·rw[Array.getElem?_eq_none hge] at a3;cases a3) (fun hs=>by have:=hS g hs;omega)).trans a3,a4,a5,a6,a7⟩
theorem zb6 {α:Type} (enc:α→ByteArray) (l:List α) (B N:Nat) (hB:B<9223372036854775808) (hl:l.length≤N) (hN:N<9223372036854775808) (h:∀ x∈l,(enc x).size≤B):(encL (fN l.length::l.map (fun x=>fT (enc x)))).length≤9+(9+B)*N:=by
 have h1:=zh0 enc B hB l h;have h2:(fN l.length).enc.length≤9:=by
  show(lebL (l.length:Int).toNat).length≤9
  exact zb1 (by omega)
 have h3:(9+B)*l.length≤(9+B)*N:=Nat.mul_le_mul_left _ hl;rw[zah,List.length_append];omega
theorem za9 {α:Type} (enc:α→ByteArray) (l:List α):(zg enc l).size=(encL (fN l.length::l.map (fun x=>fT (enc x)))).length:=rfl
theorem zbf {α:Type} (enc:α→ByteArray) (l:List α):(zg enc l).size≠0:=by
 rw[za9];have:=zh2 (l:=fN l.length::l.map (fun x=>fT (enc x))) (by simp);omega
def zaA (v:List Int):Prop:=∀ z∈v,in64 z
theorem zfw {u:List Int} {k:Nat} {P:Int→Prop} (h0:P 0) (h:∀ z∈u,P z):P (u.getD k 0):=by
 rw[List.getD_eq_getElem?_getD];cases hk:u[k]? with
 | none=>exact h0
 | some z=>exact h z (List.mem_of_getElem? hk)
theorem zfE {u:List Int} (h:∀ z∈u,z≤9223372036854775807):∀ k,k≤100 → ∀ x∈endsK u k,zaM x
 | 0,_,x,hx=>by cases hx
 | k+1,hk,x,hx=>by
  unfold endsK at hx;have hz:u.getD k 0≤9223372036854775807:=zfw (P:=fun z=>z≤9223372036854775807) (by decide) h
  split at hx
  ·rcases List.mem_append.1 hx with hx | hx
   ·exact zfE h k (by omega) x hx
   ·rw[List.mem_singleton.1 hx]
    rename_i hp
    refine⟨Int.natCast_nonneg _,?_,?_,hz⟩
    ·show(k:Int)≤_;omega
    ·show 0≤u.getD k 0;omega
  ·exact zfE h k (by omega) x hx
theorem zgv {v:List Int} (h:zaA v):∀ z∈cleanL v,z≤9223372036854775807:=by
 intro z hz;unfold cleanL at hz;obtain⟨y,hy,rfl⟩:=List.mem_map.1 hz;have:y≤9223372036854775807:=by
  rcases List.mem_or_eq_of_mem_set hy with hy | rfl
  ·exact(h y hy).2
  ·decide
 omega
theorem zbG {v:List Int} (h:zaA v):∀ x∈endsL v,zaM x:=zfE (zgv h) 65 (by omega)
theorem zbU (v:List Int):(endsL v).length≤65:=zel _ 65
attribute [-simp] Tryz.isAgg33 Tryz.sizeOf33
theorem zfb (w:World) (v:List Int) (hv:v.length=65) (h64:zaA v):Calls Tryz.prog 129 #[.agg (vecV v)] w (Ret (.tuple #[.string (putB (decide (v=cleanL v)) (zg verB (endsL v))),.int .i64 (okZ (decide (v=cleanL v)))]) w):=by
 have HEn:=fun W=>hid (zmh W v hv);have HCl:=fun W=>hid (zb8 W v hv);have HLs:=fun W y (h:Sl W 2 y ((endsL v).map Ver.cells))=>hid (listV_c W y (endsL v) verB h (by have:=zbU v;omega) (fun x hx W _=>one_c W x (zbG h64 x hx)) (fun x hx=>⟨zhf (zbG h64 x hx),by have:=zbd (zbG h64 x hx);omega⟩) (by
  have:=zb6 verB (endsL v) 18 65 (by decide) (zbU v) (by decide) (fun x hx=>zbd (zbG h64 x hx));omega))
 have HEq:=fun W=>zay v (cleanL v) hv (by rw[zaq];exact hv) W;have HF:=fun W=>hid (zg0 W (zg verB (endsL v)) (decide (v=cleanL v)));have e1:(if decide (v=cleanL v)=true∧(zg verB (endsL v)).size≠0 then zg verB (endsL v) else⟨#[]⟩)=putB (decide (v=cleanL v)) (zg verB (endsL v)):=by
  have:=zbf verB (endsL v);cases decide (v=cleanL v) <;> simp[putB,this]
 have e2:(if decide (v=cleanL v)=true then(if(zg verB (endsL v)).size≠0 then 0 else 4) else(2:Int))=okZ (decide (v=cleanL v)):=by
  have:=zbf verB (endsL v);cases decide (v=cleanL v) <;> simp[okZ,this]
 rw[e1,e2] at HF;have e3:(⟨(encL (fN (endsL v).length::(endsL v).map (fun x=>fT (verB x)))).toArray⟩:ByteArray)=zg verB (endsL v):=rfl;rw[e3] at HLs;have HB0:=hid (Blk.new w 33 (vecV v));have HE0:=hid (Ext.alloc w (.cells (vecV v) 33));have HV:=hid hv;clear hv h64 e1 e2 e3;generalize zg verB (endsL v)=s at HF HLs⊢;generalize endsL v=en at HEn HLs;go_enter Tryz.func129,Tryz.ntmps129;go_wp2_with fail
 generalize w.alloc (.cells (vecV v) 33)=w0 at HB0 HE0⊢;refine zc (by kernel_rfl) (by kernel_rfl) (by kernel_rfl) ?_
 repeat (first
  | (refine AWq.val rfl rfl rfl rfl (fun K hK=>?_);go_big_quiet_op;refine hK _ ?_;clear hK K)
  | (refine AWq.skip rfl rfl rfl ?_;simp only[Act.put,zq6,zq7,zq8])
  | (refine AWq.call rfl Tryz.func164 (by kernel_rfl) (by kernel_rfl) rfl rfl rfl ?_;apply Exists.intro;refine And.intro (fun wc hc=>?_) ?_;(· (simp only[zh,zm,↓reduceIte,Nat.reduceEqDiff,zq1,zq2,zq3,zq4,zq5];with_reducible exact(HCl _).out));simp only[Act.put,zq6,zq7,zq8])
  | (refine AWq.call rfl Tryz.func148 (by kernel_rfl) (by kernel_rfl) rfl rfl rfl ?_;apply Exists.intro;refine And.intro (fun wc hc=>?_) ?_;(· (simp only[zh,zm,↓reduceIte,Nat.reduceEqDiff,zq1,zq2,zq3,zq4,zq5];with_reducible exact(HF _).out));simp only[Act.put,zq6,zq7,zq8])
  | (refine AWq.callQ ((RowAt Ver.cells 2 en)) ((fun v _ _ he h=>RowAt.ext h he)) rfl Tryz.func162 (by kernel_rfl) (by kernel_rfl) rfl rfl rfl (fun wc hc=>?_) ?_;(· (simp only[zh,zm,↓reduceIte,Nat.reduceEqDiff,zq1,zq2,zq3,zq4,zq5];exact(HEn wc).out)))
  | (refine AWq.call rfl Tryz.func161 (by kernel_rfl) (by kernel_rfl) rfl rfl rfl ?_;apply Exists.intro;refine And.intro (fun wc hc=>?_) ?_;(· (simp only[zh,zm,↓reduceIte,Nat.reduceEqDiff,zq1,zq2,zq3,zq4,zq5];intro y hy;exact(HLs _ _ hy.1).out));simp only[Act.put,zq6,zq7,zq8])
  | (refine AWq.val rfl rfl rfl rfl (fun K hK=>?_);refine quiet_load rfl rfl (fun wc hwc=>by obtain⟨E,rfl⟩:=hwc;exact HB0.out.ext (Ext.of_wext _ _)) (fun wc hB=>zlb HV.out hB) (hK _ ?_);clear hK K;simp only[Act.put,zq6,zq7,zq8]))
 refine AWq.done rfl rfl rfl (fun w2 x2=>?_);simp only[zl,Act.put,zq6,zq7,zq8];rintro x5 -;go_wp2_with fail
 go_ret2;exact⟨rfl,HE0.out.trans x2⟩
end
section
open Go.RowKit
theorem zhw (w:World) (s:ByteArray) (hs:s.size≤90000) (enc:Ver→ByteArray) (ok:Ver→Prop) (hone:∀ W t,t.size≤s.size→Ext w W→Calls Tryz.prog 126 #[.string t] W (fun en w'=>∃ (x:Ver) (e:Int),en=.returned (.tuple #[.agg #[.int .i64 x.by_,.int .i64 x.n],.int .i64 e])∧zaM x∧Ext W w' ∧ ∀ x0,ok x0→t=enc x0→x=x0∧e=0)):Calls Tryz.prog 125 #[.string s,.func (.func 126) #[] #[]] w (fun en w'=>∃ (v:Value) (b:Bool) (l:List Ver),en=.returned (.tuple #[v,.bool b])∧RowAt Ver.cells 2 l v w'∧l.length≤s.size∧(∀ x∈l,zaM x)∧Ext w w'∧(∀ l0:List Ver,(∀ x∈l0,ok x)→l0.length≤90000→s=zg enc l0→l=l0)∧w'.ownsRow w.heap.size 51 2 v l.length (l.map Ver.cells).flatten):=by
 have HO:=fun W=>hid (zbP W s);have HN:=fun W q (h':InAt W q s 0)=>hid (n_c W q s 0 h' (by omega));have HT:=fun W q (s':ByteArray) (e':Int) (h':InAt W q s' e') (hs':s'.size≤s.size)=>hid (t_c W q s' e' h' (by omega));have HEnd:=fun W q (s':ByteArray) (e':Int) (h':InAt W q s' e')=>hid (zeE W q s' e' h');have HOne:=hid hone;clear hone;go_enter Tryz.func125,Tryz.ntmps125;go_wp2_with fail
 refine((HO _).out).mono ?_;rintro en w1 ⟨v,rfl,⟨q,rfl,hq,hI⟩,x1⟩;have HI1:=hid hI;have HE1:=hid x1;have HQ:=hid hq;clear hI x1 hq HO;go_wp2_with fail
 refine((HN _ _ HI1.out).out).mono ?_;rintro en w2 ⟨n,s2,e2,rfl,hn,k2,h2,hs2,r2⟩;have HI2:=hid h2;have HE2:Hid (Ext w w2):=Ext.of_below (((Keep.of_ext (S:=fun g=>g=q) HE1.out).trans k2).below (Nat.le_refl _) fun k hk=>by have:=HQ.out;omega);have HS2:=hid hs2;have HB:Hid (∀ l0:List Ver,s=zg enc l0→l0.length≤90000→n=l0.length∧l0.length≤s.size∧s2.data.toList=encL (l0.map (fun x=>fT (enc x)))∧e2=0):=fun l0 a0 a1=>by
  have a2:s.data.toList=lebL l0.length++encL (l0.map (fun x=>fT (enc x))):=by
   rw[a0]
   show encL (fN l0.length::l0.map (fun x=>fT (enc x)))=_
   rw[zah];rfl
  obtain⟨b1,b2,b3⟩:=r2 l0.length _ rfl (by omega) a2;refine⟨b1,?_,b2,b3⟩;have c1:s.data.toList.length=s.size:=by rw[Array.length_toList];rfl
  rw[a2,List.length_append] at c1;have:=zdW enc l0;omega
 clear k2 h2 r2 hs2 HI1 HE1 HN;by_cases hbig:(s.size:Int)<n
 ·have d0:decide ((s.size:Int)<n)=true:=decide_eq_true hbig
  have d0':decide (s.size<n)=true:=decide_eq_true (by omega);have HD:Hid (∀ l0:List Ver,(∀ x∈l0,ok x)→l0.length≤90000→s=zg enc l0→[]=l0):=fun l0 _ a1 a2=>by
   obtain⟨b1,b2,_⟩:=HB.out l0 a2 a1
   exfalso;omega
  clear hbig HB HT HEnd HOne;go_wp2_with fail
  go_ret2;exact⟨_,_,[],rfl,RowAt.nil _,Nat.zero_le _,fun x hx=>(by cases hx),HE2.out,HD.out,zp _ _ _ _⟩
 ·have d0:decide ((s.size:Int)<n)=false:=decide_eq_false hbig
  have d0':decide (s.size<n)=false:=decide_eq_false (by omega);have hn9:n≤s.size:=by omega
  clear hbig hn;go_wp2_with fail
  go_loopw [8,20] (fun s8 s20 wr=>∃ (k:Nat) (ov:Value) (l:List Ver) (s':ByteArray) (e':Int),ov=s8∧k≤n∧s20=.int .i64 k∧l.length=k∧Hid (Ext w wr)∧Hid (InAt wr q s' e')∧Hid (s'.size≤s.size)∧Hid (∀ x∈l,zaM x)∧Hid (l.length=0→s8=.slice none 0 0)∧Hid (wr.ownsRow (q+1) 51 2 s8 l.length (l.map Ver.cells).flatten)∧Hid (∀ l0:List Ver,(∀ x∈l0,ok x)→s=zg enc l0→l0.length≤90000→n=l0.length∧l=l0.take k∧s'.data.toList=encL ((l0.drop k).map (fun x=>fT (enc x)))∧e'=0)) (fun _ s20 _=>n-(intOf s20).toNat)
  case atStart=>exact⟨0,_,[],s2,e2,rfl,by omega,rfl,rfl,HE2,HI2,HS2,fun x hx=>(by cases hx),fun _=>rfl,zp _ _ _ _,fun l0 a0 a1 a2=>by
   obtain⟨b1,b2,b3,b4⟩:=HB.out l0 a1 a2;exact⟨b1,rfl,b3,b4⟩⟩
  case round=>
   obtain⟨k,s8,l,s',e',rfl,hk,rfl,hlen,hE,hI,hS,hG,hZ,hO,hB⟩:=hrel;clear HE2 HI2 HS2 HB;by_cases hlt:k<n
   ·have d1:decide ((k:Int)<n)=true:=decide_eq_true (by omega)
    have d1':decide (k<n)=true:=decide_eq_true hlt;have hn9':=hid hn9;have hln:=hid hlen;have hlt':=hid hlt;clear hlen hlt;go_wp2_with fail
    refine((HT _ _ _ _ hI.out hS.out).out).mono ?_;rintro en w3 ⟨t,s3,e3,rfl,ht,k3,h3,hs3,r3⟩;have hI3:=hid h3;have hE3:Hid (Ext w w3):=Ext.of_below (((Keep.of_ext (S:=fun g=>g=q) hE.out).trans k3).below (Nat.le_refl _) fun k hk=>by have:=HQ.out;omega);have hO3:Hid (w3.ownsRow (q+1) 51 2 s8 l.length (l.map Ver.cells).flatten):=zdG hO.out k3 (fun g hg=>by omega);have hS3:Hid (s3.size≤s.size):=by have:=hS.out;unfold Hid;omega
    have HCall:=HOne.out w3 t (by have:=hS.out;omega) hE3.out;have R3:=hid r3;clear k3 h3 hs3 r3 ht hI hE hO hS;go_wp2_with fail
    refine HCall.mono ?_;rintro en w4 ⟨x,e,rfl,hg,x4,hb⟩;have hI4:=hid (hI3.out.ext (x4.trans (Ext.alloc w4 (.cells #[.int .i64 x.by_,.int .i64 x.n] 51))));have hE4:=hid (hE3.out.trans (x4.trans (Ext.alloc w4 (.cells #[.int .i64 x.by_,.int .i64 x.n] 51))));have hO4:=hid (zw hO3.out (x4.trans (Ext.alloc w4 (.cells #[.int .i64 x.by_,.int .i64 x.n] 51))));have hW4:=hid (Blk.new w4 51 #[.int .i64 x.by_,.int .i64 x.n]);have hB4:Hid (∀ l0:List Ver,(∀ x∈l0,ok x)→s=zg enc l0→l0.length≤90000→e=0∧n=l0.length∧l++[x]=l0.take (k+1)∧s3.data.toList=encL ((l0.drop (k+1)).map (fun x=>fT (enc x)))∧e3=0):=fun l0 a0 a1 a2=>by
     obtain⟨b1,b2,b3,b4⟩:=hB.out l0 a0 a1 a2;have hlt:=hlt'.out;have hkl:k<l0.length:=by omega
     rw[List.drop_eq_getElem_cons hkl,List.map_cons,zah] at b3;have b3':s'.data.toList=lebL (enc l0[k]).size++((enc l0[k]).data.toList++encL ((l0.drop (k+1)).map (fun x=>fT (enc x)))):=by
      rw[b3]
      show(lebL (enc l0[k]).size++(enc l0[k]).data.toList)++_=_
      rw[List.append_assoc]
     obtain⟨c1,c2,c3⟩:=R3.out _ _ b4 b3';obtain⟨f1,f2⟩:=hb l0[k] (a0 _ (List.getElem_mem hkl)) c1;refine⟨f2,b1,?_,c2,c3⟩;rw[List.take_succ_eq_append_getElem hkl,←b2,f1]
    have hG4:Hid (∀ y∈l++[x],zaM y):=fun y hy=>by
     rcases List.mem_append.1 hy with hy | hy
     ·exact hG.out y hy
     ·rw[List.mem_singleton.1 hy];exact hg
    clear hb hB R3 hI3 hE3 hO3 HCall hg hG;by_cases h0:e=0
    ·have d2:(e != 0)=false:=by simp[h0]
     clear h0;obtain⟨v',w6,hrun6,ho6,hk6,_⟩:=zaJ (P:=Tryz.prog) zjq vr_coded hO4.out (Nat.succ_le_of_lt hI4.out.lt) x (by have:=hn9'.out;have:=hln.out;omega) (by omega);simp only[Ver.cells,World.size_alloc] at hrun6;have HE6:=hid (hk6.toExt hE4.out (fun g hg=>Nat.le_trans HQ.out (Nat.le_of_lt (zt hO4.out g hg).1)));have HI6:Hid (InAt w6 q s3 e3):=Blk.keep hI4.out hk6 (fun h=>by have:=(zt hO4.out q h).1;omega);have HO6:=hid ho6;clear ho6 hk6 hI4 hE4 hO4 x4;go_wp2_with (at_builtin;refine zx rfl (.tmp 31) (.tmp 33) _ _ rfl rfl rfl hrun6 ?_)
     go_roundw
     case rel=>exact⟨k+1,_,l++[x],s3,e3,rfl,by have:=hlt'.out;omega,by go_num,by rw[List.length_append,hln.out];rfl,HE6,HI6,hS3,hG4,fun h=>by simp at h,HO6,fun l0 a0 a1 a2=>(hB4.out l0 a0 a1 a2).2⟩
     case measure=>simp[intOf];have:=hlt'.out;omega
    ·have d2:(e != 0)=true:=by simp[h0]
     have HD:Hid (∀ l0:List Ver,(∀ x∈l0,ok x)→l0.length≤90000→s=zg enc l0→[]=l0):=fun l0 a0 a1 a2=>absurd (hB4.out l0 a0 a2 a1).1 h0;clear h0 hB4 hI4 hO4 hG4;go_wp2_with fail
     go_ret2;exact⟨_,_,[],rfl,RowAt.nil _,Nat.zero_le _,fun x hx=>(by cases hx),hE4.out,HD.out,zp _ _ _ _⟩
   ·obtain rfl:k=n:=by omega
    have hrow:=hid (RowAt.of_row vr_coded hO.out hZ.out);have hO8:=hid (zY hO.out (Nat.le_succ_of_le HQ.out));have HD:Hid (∀ l0:List Ver,(∀ x∈l0,ok x)→l0.length≤90000→s=zg enc l0→l=l0):=fun l0 a0 a1 a2=>by
     obtain⟨b1,b2,_⟩:=hB.out l0 a0 a2 a1;rw[b2,b1,List.take_length]
    have HL:Hid (l.length≤s.size):=by unfold Hid;omega
    clear hB hO hZ HT HOne hlen hlt hk hn9;go_wp2_with fail
    refine((HEnd _ _ _ _ hI.out).out).mono ?_;rintro en w7 ⟨rfl,x7⟩;have hrow7:=hid (hrow.out.ext x7);have hO7:=hid (zw hO8.out x7);have hE7:=hid (hE.out.trans x7);clear hrow hE hI x7 HEnd;go_wp2_with fail
    go_ret2;exact⟨_,_,l,rfl,hrow7.out,HL.out,hG.out,hE7.out,HD.out,hO7.out⟩
end
section
open Go.RowKit
attribute [-simp] Tryz.isAgg33 Tryz.sizeOf33
theorem sameV_c (w:World) (v:List Int) (hv:v.length=65) (s r:ByteArray) (e:Int) (HP:∀ W,Ext w W→Hid (Calls Tryz.prog 129 #[.agg (vecV v)] W (Ret (.tuple #[.string r,.int .i64 e]) W))):Calls Tryz.prog 127 #[.agg (vecV v),.string s,.func (.func 129) #[] #[]] w (Ret (.tuple #[.agg (vecV (if e=0∧r=s then v else vec0)),.int .i64 (if e=0∧r=s then 0 else 6)]) w):=by
 have HX:=hid (((Blk.new w 33 (vecV v)).alloc (.cells (vecV vec0) 33)).alloc (.cells (vecV vec0) 33));have HR:=hid ((Blk.new (w.alloc (.cells (vecV v) 33)) 33 (vecV vec0)).alloc (.cells (vecV vec0) 33));have HN:=hid (Blk.new ((w.alloc (.cells (vecV v) 33)).alloc (.cells (vecV vec0) 33)) 33 (vecV vec0));simp only[World.size_alloc] at HR HN;have HE:=hid (((Ext.alloc w (.cells (vecV v) 33)).alloc' (.cells (vecV vec0) 33)).alloc' (.cells (vecV vec0) 33));have HhX:=hid hv;have HZ:Hid (vec0.length=65):=by unfold Hid;simp[vec0]
 clear hv;have key:∀ (y:List Int) (z:Int),(e=0∧r=s∧v=y∧z=0∨(e != 0)=true∧vec0=y∧z=6∨e=0∧(r.toList==s.toList)=false∧vec0=y∧z=6)→Calls Tryz.prog 127 #[.agg (vecV v),.string s,.func (.func 129) #[] #[]] w (Ret (.tuple #[.agg (vecV y),.int .i64 z]) w):=by
  rintro y z (⟨rfl,rfl,rfl,rfl⟩ | ⟨d0,rfl,rfl⟩ | ⟨rfl,d1,rfl,rfl⟩)
  ·have d0:(r.toList==r.toList)=true:=by simp
   go_enter Tryz.func127,Tryz.ntmps127;go_wp2_with fail
   generalize ((w.alloc (.cells (vecV v) 33)).alloc (.cells (vecV vec0) 33)).alloc (.cells (vecV vec0) 33)=w0 at HX HR HN HE⊢;simp only[Tryz.isAgg33,Tryz.sizeOf33,Result.andThen,↓reduceIte,za HX.out 65 (by rw[ze];exact HhX.out)];rw[Oper.upon_value];go_wp2_with fail
   refine((HP _ HE.out).out).mono ?_;rintro en w1 ⟨rfl,x1⟩;have HX1:=hid (HX.out.ext x1);have HR1:=hid (HR.out.ext x1);have HN1:=hid (HN.out.ext x1);have HE1:=hid (HE.out.trans x1);clear x1 HX HR HN HE HP;go_wp2_with fail
   simp only[Tryz.isAgg33,Tryz.sizeOf33,Result.andThen,↓reduceIte,za HX1.out 65 (by rw[ze];exact HhX.out)];rw[Oper.upon_value];go_wp2_with fail
   simp only[Tryz.sizeOf33,Result.andThen,↓reduceIte,zb HR1.out (by rw[ze,HhX.out];exact zN) (by first | rfl | (rw[ze,ze,HhX.out];exact HZ.out)) (zaf _),show(vecV _).size=65 from(ze _).trans HhX.out];rw[Oper.upon_skip];go_wp2_with fail
   have HF:=hid (HR1.out.setRow (vecV v));exact bodyPost_ret (zi rfl _ _ (w.heap.size+1) 33 _ (0,0) _ rfl HF.out Tryz.underlying33 rfl (by rw[ze,HhX.out];exact zN)) rfl ⟨rfl,Ext.setRow HE1.out (by omega) _⟩
  ·go_enter Tryz.func127,Tryz.ntmps127
   go_wp2_with fail
   generalize ((w.alloc (.cells (vecV v) 33)).alloc (.cells (vecV vec0) 33)).alloc (.cells (vecV vec0) 33)=w0 at HX HR HN HE⊢;simp only[Tryz.isAgg33,Tryz.sizeOf33,Result.andThen,↓reduceIte,za HX.out 65 (by rw[ze];exact HhX.out)];rw[Oper.upon_value];go_wp2_with fail
   refine((HP _ HE.out).out).mono ?_;rintro en w1 ⟨rfl,x1⟩;have HX1:=hid (HX.out.ext x1);have HR1:=hid (HR.out.ext x1);have HN1:=hid (HN.out.ext x1);have HE1:=hid (HE.out.trans x1);clear x1 HX HR HN HE HP;go_wp2_with fail
   simp only[Tryz.isAgg33,Tryz.sizeOf33,Result.andThen,↓reduceIte,za HN1.out 65 (by rw[ze];exact HZ.out)];rw[Oper.upon_value];go_wp2_with fail
   simp only[Tryz.sizeOf33,Result.andThen,↓reduceIte,zb HR1.out (by rw[ze,HZ.out];exact zN) (by first | rfl | (rw[ze,ze,HZ.out];exact HZ.out)) (zaf _),show(vecV _).size=65 from(ze _).trans HZ.out];rw[Oper.upon_skip];go_wp2_with fail
   have HF:=hid (HR1.out.setRow (vecV vec0));exact bodyPost_ret (zi rfl _ _ (w.heap.size+1) 33 _ (0,0) _ rfl HF.out Tryz.underlying33 rfl (by rw[ze,HZ.out];exact zN)) rfl ⟨rfl,Ext.setRow HE1.out (by omega) _⟩
  ·go_enter Tryz.func127,Tryz.ntmps127
   go_wp2_with fail
   generalize ((w.alloc (.cells (vecV v) 33)).alloc (.cells (vecV vec0) 33)).alloc (.cells (vecV vec0) 33)=w0 at HX HR HN HE⊢;simp only[Tryz.isAgg33,Tryz.sizeOf33,Result.andThen,↓reduceIte,za HX.out 65 (by rw[ze];exact HhX.out)];rw[Oper.upon_value];go_wp2_with fail
   refine((HP _ HE.out).out).mono ?_;rintro en w1 ⟨rfl,x1⟩;have HX1:=hid (HX.out.ext x1);have HR1:=hid (HR.out.ext x1);have HN1:=hid (HN.out.ext x1);have HE1:=hid (HE.out.trans x1);clear x1 HX HR HN HE HP;go_wp2_with fail
   simp only[Tryz.isAgg33,Tryz.sizeOf33,Result.andThen,↓reduceIte,za HN1.out 65 (by rw[ze];exact HZ.out)];rw[Oper.upon_value];go_wp2_with fail
   simp only[Tryz.sizeOf33,Result.andThen,↓reduceIte,zb HR1.out (by rw[ze,HZ.out];exact zN) (by first | rfl | (rw[ze,ze,HZ.out];exact HZ.out)) (zaf _),show(vecV _).size=65 from(ze _).trans HZ.out];rw[Oper.upon_skip];go_wp2_with fail
   have HF:=hid (HR1.out.setRow (vecV vec0));exact bodyPost_ret (zi rfl _ _ (w.heap.size+1) 33 _ (0,0) _ rfl HF.out Tryz.underlying33 rfl (by rw[ze,HZ.out];exact zN)) rfl ⟨rfl,Ext.setRow HE1.out (by omega) _⟩
 by_cases h0:e=0
 ·by_cases h1:r=s
  ·rw[if_pos ⟨h0,h1⟩,if_pos ⟨h0,h1⟩]
   exact key _ _ (.inl ⟨h0,h1,rfl,rfl⟩)
  ·rw[if_neg (fun h=>h1 h.2),if_neg (fun h=>h1 h.2)]
   exact key _ _ (.inr (.inr ⟨h0,by rw[zag];simp[h1],rfl,rfl⟩))
 ·rw[if_neg (fun h=>h0 h.1),if_neg (fun h=>h0 h.1)]
  exact key _ _ (.inr (.inl ⟨by simp[h0],rfl,rfl⟩))
end
section
open Go.RowKit
theorem zlU {z:Int} (h:0≤z):max z 0=z:=by omega
def zgE (u:List Int):Prop:=u[0]? = some 0 ∧ ∀ z∈u,0≤z
theorem zkT {u:List Int} (h:zgE u):cleanL u=u:=by
 unfold cleanL;have h0:u.set 0 0=u:=by
  obtain⟨hl,he⟩:=List.getElem?_eq_some_iff.1 h.1;rw[←he];exact List.set_getElem_self hl
 rw[h0];exact(List.map_congr_left fun z hz=>zlU (h.2 z hz)).trans (List.map_id' u)
theorem zg6 {v:List Int} (h:0<v.length):zgE (cleanL v):=by
 constructor
 ·unfold cleanL
  rw[List.getElem?_map,List.getElem?_set_self h];rfl
 ·intro z hz
  unfold cleanL at hz;obtain⟨y,_,rfl⟩:=List.mem_map.1 hz;omega
def upTo (u:List Int) (k:Nat):List Int:=u.take k++List.replicate (65-k) 0
theorem zfW {u:List Int} (hu:u.length=65) {k:Nat} (hk:k<65):(upTo u k).set k (u.getD k 0)=upTo u (k+1):=by
 have hk':k<u.length:=by omega
 have e:u.getD k 0=u[k]:=by rw[List.getD_eq_getElem?_getD,List.getElem?_eq_getElem hk'];rfl
 have hlen:(u.take k).length=k:=by rw[List.length_take];omega
 unfold upTo;rw[e,List.set_append_right (h:=by omega),hlen,Nat.sub_self,show 65-k=(65-(k+1))+1 by omega,List.replicate_succ,List.set_cons_zero,List.take_succ_eq_append_getElem hk',List.append_assoc];rfl
theorem zjT {u:List Int} (hu:u.length=65) {k:Nat} (hk:k<65) (h0:u.getD k 0=0):upTo u (k+1)=upTo u k:=by
 rw[←zfW hu hk,h0];have hlen:(u.take k).length=k:=by rw[List.length_take];omega
 unfold upTo;rw[List.set_append_right (h:=by omega),hlen,Nat.sub_self,show 65-k=(65-(k+1))+1 by omega,List.replicate_succ,List.set_cons_zero]
theorem ziu {u:List Int} (h:zgE u) (k:Nat) (hk:k≤65) (hu:u.length=65):zgE (upTo u k):=by
 constructor
 ·unfold upTo
  by_cases h0:k=0
  ·subst h0;rw[List.take_zero,List.nil_append];rfl
  ·rw[List.getElem?_append_left (by rw[List.length_take];omega),List.getElem?_take,if_pos (by omega)];exact h.1
 ·intro z hz
  unfold upTo at hz;rcases List.mem_append.1 hz with hz | hz
  ·exact h.2 z (List.mem_of_mem_take hz)
  ·rw[(List.mem_replicate.1 hz).2];exact Int.le_refl _
theorem upTo_at {u:List Int} {k:Nat} (hk:k<65) (hu:u.length=65):(upTo u k).getD k 0=0:=by
 have hlen:(u.take k).length=k:=by rw[List.length_take];omega
 unfold upTo;rw[List.getD_eq_getElem?_getD,List.getElem?_append_right (by omega),hlen,Nat.sub_self,List.getElem?_replicate]
 split <;> rfl
theorem zlI (l:List Ver) (x:Ver):ofL (l++[x])=addL (ofL l) x:=by unfold ofL;rw[List.foldl_append];rfl
theorem zjB {u:List Int} (h:zgE u) (hu:u.length=65):∀ k,k≤65→ofL (endsK u k)=upTo u k
 | 0,_=>by
  show vec0=_
  unfold upTo vec0;rw[List.take_zero,List.nil_append]
 | k+1,hk=>by
  have ih:=zjB h hu k (by omega);unfold endsK
  split
  ·rename_i hp
   have hk0:k≠0:=by
    rintro rfl;rw[List.getD_eq_getElem?_getD,h.1] at hp;exact absurd hp (by decide)
   rw[zlI,ih];unfold addL;have hr:zD ⟨(k:Int),u.getD k 0⟩=true:=by unfold zD;rw[decide_eq_true_eq];dsimp only;omega
   rw[if_pos hr,zkT (ziu h k (by omega) hu)]
   show(upTo u k).set ((k:Int).toNat) (max ((upTo u k).getD ((k:Int).toNat) 0) (u.getD k 0))=_
   rw[Int.toNat_natCast,upTo_at (by omega) hu,show max 0 (u.getD k 0)=u.getD k 0 by omega];exact zfW hu (by omega)
  ·rename_i hp
   have h0:u.getD k 0=0:=by
    have h1:0≤u.getD k 0:=zfw (P:=fun z=>0≤z) (by decide) h.2;omega
   rw[ih,zjT hu (by omega) h0]
theorem zlH {v:List Int} (hv:v.length=65) (h:v=cleanL v):ofL (endsL v)=v:=by
 have hc:zgE v:=by rw[h];exact zg6 (by omega)
 unfold endsL;rw[←h,zjB hc hv 65 (by omega)];unfold upTo;rw[List.take_of_length_le (by omega)];simp
theorem addL_in {v:List Int} {x:Ver} (h:zaA v) (hx:zaM x):zaA (addL v x):=by
 have hc:zaA (cleanL v):=fun z hz=>by
  refine⟨?_,zgv h z hz⟩;unfold cleanL at hz;obtain⟨y,_,rfl⟩:=List.mem_map.1 hz;omega
 unfold addL
 split
 ·intro z hz
  rcases List.mem_or_eq_of_mem_set hz with hz | rfl
  ·exact hc z hz
  ·have h1:in64 ((cleanL v).getD x.by_.toNat 0):=zfw (P:=fun z=>in64 z) (by unfold in64;omega) hc
   have h2:=hx.2.2.1;have h3:=hx.2.2.2;unfold in64 at *;omega
 ·exact hc
theorem zlK:∀ (l:List Ver) (v:List Int),zaA v→(∀ x∈l,zaM x)→zaA (l.foldl addL v)
 | [],v,h,_=>h
 | x::l,v,h,hx=>zlK l (addL v x) (addL_in h (hx x (by simp))) (fun y hy=>hx y (by simp[hy]))
theorem zjs:zaA vec0:=fun z hz=>by rw[(List.mem_replicate.1 hz).2];unfold in64;omega
attribute [-simp] Tryz.isAgg33 Tryz.sizeOf33
def gotV (v:List Int) (s:ByteArray):Prop:=okZ (decide (v=cleanL v))=0∧putB (decide (v=cleanL v)) (zg verB (endsL v))=s
instance (v:List Int) (s:ByteArray):Decidable (gotV v s):=by unfold gotV;exact inferInstance
theorem getV_x (w:World) (s:ByteArray) (hs:s.size≤90000):Calls Tryz.prog 72 #[.string s] w (fun en w'=>∃ v:List Int,v.length=65∧zaA v∧(∀ v0:List Int,v0.length=65→zaA v0→v0=cleanL v0→s=zg verB (endsL v0)→v=v0)∧en=.returned (.tuple #[.agg (vecV (if gotV v s then v else vec0)),.int .i64 (if gotV v s then 0 else 6)])∧Ext w w'):=by
 have HP:=fun W=>hid (zhw W s hs verB zaM (fun W' t ht _=>(zlu W' t (by omega)).mono fun en w' ⟨z1,z2,e,h1,h2,h3,h4,h5⟩=>⟨⟨z1,z2⟩,e,h1,⟨Int.natCast_nonneg _,by show(z1:Int)≤_;omega,Int.natCast_nonneg _,by show(z2:Int)≤_;omega⟩,h4,fun x0 a b=>by
  obtain⟨c,d⟩:=h5 x0 a b;exact⟨c.symm,d⟩⟩))
 have HO:=fun W u l h=>hid (of13_c W u l h);have HS:=fun W v (hv:v.length=65) (h64:zaA v)=>hid (sameV_c W v hv s _ _ (fun W' _=>hid (zfb W' v hv h64)));have HR0:=hid (Blk.new w 33 (vecV vec0));have HE0:=hid (Ext.alloc w (.cells (vecV vec0) 33));clear hs;go_enter Tryz.func72,Tryz.ntmps72;go_wp2_with fail
 refine((HP _).out).mono ?_;rintro en w1 ⟨u,b,l,rfl,hrow,_,hok,x1,hback,-⟩;have HRow:=hid hrow.1;have HR1:=hid (HR0.out.ext x1);have HE1:=hid (HE0.out.trans x1);have HOk:=hid hok;have HBk:=hid hback;clear hrow hok x1 hback HR0 HE0 HP;go_wp2_with fail
 refine((HO _ _ _ HRow.out).out).mono ?_;rintro en w2 ⟨rfl,x2⟩;have HR2:=hid (HR1.out.ext x2);have HE2:=hid (HE1.out.trans x2);have hl:=zcM l;have h64:zaA (ofL l):=zlK l vec0 zjs HOk.out;have HV:Hid (∀ v0:List Int,v0.length=65→zaA v0→v0=cleanL v0→s=zg verB (endsL v0)→ofL l=v0):=fun v0 a0 a1 a2 a3=>by
  rw[HBk.out (endsL v0) (zbG a1) (by have:=zbU v0;omega) a3];exact zlH a0 a2
 have HSm:=HS w2 (ofL l) hl h64;have HL:=hid hl;have H64:=hid h64;clear HR1 HE1 x2 hl h64 HBk HOk HO HS HRow;generalize ofL l=v at HV HSm HL H64;go_wp2_with fail
 refine(HSm.out).mono ?_;rintro en w3 ⟨rfl,x3⟩;have HR3:=hid (HR2.out.ext x3);have HE3:=hid (HE2.out.trans x3);clear HR2 HE2 x3 HSm;by_cases hc:okZ (decide (v=cleanL v))=0∧putB (decide (v=cleanL v)) (zg verB (endsL v))=s
 ·rw[if_pos hc,if_pos hc]
  have HD:Hid (vecV (if gotV v s then v else vec0)=vecV v∧(if gotV v s then(0:Int) else 6)=0):=by have hc':gotV v s:=hc;unfold Hid;rw[if_pos hc',if_pos hc'];exact⟨rfl,rfl⟩
  clear hc;go_wp2_with fail
  simp only[Tryz.sizeOf33,Result.andThen,↓reduceIte,zb HR3.out (by rw[ze,HL.out];exact zN) (by first | rfl | (rw[ze,ze,HL.out];exact(by rfl))) (zaf _),show(vecV _).size=65 from(ze _).trans HL.out];rw[Oper.upon_skip];go_wp2_with fail
  have HF:=hid (HR3.out.setRow (vecV v));refine bodyPost_ret (zi rfl _ _ w.heap.size 33 _ (0,0) _ rfl HF.out Tryz.underlying33 rfl (by rw[ze,HL.out];exact zN)) rfl ?_;exact⟨v,HL.out,H64.out,HV.out,by rw[HD.out.1,HD.out.2];rfl,Ext.setRow HE3.out (Nat.le_refl _) _⟩
 ·rw[if_neg hc,if_neg hc]
  have HD:Hid (vecV (if gotV v s then v else vec0)=vecV vec0∧(if gotV v s then(0:Int) else 6)=6):=by have hc':¬ gotV v s:=hc;unfold Hid;rw[if_neg hc',if_neg hc'];exact⟨rfl,rfl⟩
  have HZ:Hid (vec0.length=65):=by unfold Hid;simp[vec0]
  clear hc;go_wp2_with fail
  simp only[Tryz.sizeOf33,Result.andThen,↓reduceIte,zb HR3.out (by rw[ze,HZ.out];exact zN) (by first | rfl | (rw[ze,ze,HZ.out];exact(by rfl))) (zaf _),show(vecV _).size=65 from(ze _).trans HZ.out];rw[Oper.upon_skip];go_wp2_with fail
  have HF:=hid (HR3.out.setRow (vecV vec0));refine bodyPost_ret (zi rfl _ _ w.heap.size 33 _ (0,0) _ rfl HF.out Tryz.underlying33 rfl (by rw[ze,HZ.out];exact zN)) rfl ?_;exact⟨v,HL.out,H64.out,HV.out,by rw[HD.out.1,HD.out.2];rfl,Ext.setRow HE3.out (Nat.le_refl _) _⟩
end
section
open Go.RowKit
theorem zeU (w:World) (u v:Value) (a b:List Ver) (hu:Sl w 2 u (a.map Ver.cells)) (hv:Sl w 2 v (b.map Ver.cells)):Calls Tryz.prog 57 #[u,v] w (Ret (.bool (decide (a=b))) w):=by
 obtain⟨A,c,rfl,h1,h2,h3⟩:=zr hu;obtain⟨B,d,rfl,k1,k2,k3⟩:=zr hv;have HR:Hid ((a≠b→decide (a=b)=false)∧(a=b→decide (a=b)=true)):=⟨fun h=>decide_eq_false h,fun h=>decide_eq_true h⟩
 generalize decide (a=b)=r at HR⊢;clear hu hv;unfold maxLen at h2 k2;by_cases hlen:a.length=b.length
 ·have dl:((a.length:Int) != b.length)=false:=by simp[hlen]
  go_enter Tryz.func57,Tryz.ntmps57;go_wp2_with fail
  go_loopw [13] (fun i wr=>∃ k:Nat,k≤a.length∧i=.int .i64 k∧Ext w wr∧Hid (a.take k=b.take k)) (fun i _=>a.length-(intOf i).toNat)
  case atStart=>exact⟨0,by omega,rfl,Ext.refl _,rfl⟩
  case round=>
   obtain⟨k,hk,rfl,hE,ht⟩:=hrel;have HE:=hid hE;by_cases hka:k<a.length
   ·have hkb:k<b.length:=by omega
    obtain⟨b1,o1,rfl,lb1,hcell1⟩:=h3 (by omega);obtain⟨b2,o2,rfl,lb2,hcell2⟩:=k3 (by omega);have c0:=hE.cell (hcell1 k hka 0 _ rfl);have c1:=hE.cell (hcell1 k hka 1 _ rfl);have d0:=hE.cell (hcell2 k hkb 0 _ rfl);have d1:=hE.cell (hcell2 k hkb 1 _ rfl);rw[Nat.add_zero] at c0 d0;have lr1:=Nat.lt_of_lt_of_le lb1 hE.size;have lr2:=Nat.lt_of_lt_of_le lb2 hE.size;have HNe:Hid (a[k]≠b[k]→r=false):=fun h=>HR.out.1 (fun e=>h (by subst e;rfl));have HNx:Hid (a[k]=b[k]→a.take (k+1)=b.take (k+1)):=fun h=>by
     rw[List.take_succ_eq_append_getElem hka,List.take_succ_eq_append_getElem hkb,ht.out,h]
    clear hcell1 hcell2 h3 k3 hE ht HR;generalize a[k]=x at c0 c1 HNe HNx;generalize b[k]=y at d0 d1 HNe HNx;by_cases hxy:x=y
    ·have e1:eq2 x.by_ x.n y.by_ y.n=true:=by subst hxy;simp[eq2]
     have HNx:=hid (HNx.out hxy);clear HNe hxy;go_wp2_with fail
     refine zc (by kernel_rfl) (by kernel_rfl) (by kernel_rfl) ?_
     repeat (first
      | (refine AWq.val rfl rfl rfl rfl (fun K hK=>?_);go_big_quiet_op;refine hK _ ?_;clear hK K)
      | (refine AWq.skip rfl rfl rfl ?_;simp only[Act.put,zq6,zq7,zq8]))
     refine AWq.done rfl rfl rfl (fun w5 x5=>?_);simp only[zl,Act.put,zq6,zq7,zq8];go_wp2_with fail
     go_roundw
     case rel=>exact⟨k+1,by omega,by go_num,HE.out.trans x5,HNx.out⟩
     case measure=>simp[intOf];omega
    ·have e1:eq2 x.by_ x.n y.by_ y.n=false:=by
      rw[Bool.eq_false_iff];intro h;exact hxy (by cases x;cases y;simp[eq2] at h;simp[h])
     have HNe:=hid (HNe.out hxy);clear HNx hxy;go_wp2_with fail
     refine zc (by kernel_rfl) (by kernel_rfl) (by kernel_rfl) ?_
     repeat (first
      | (refine AWq.val rfl rfl rfl rfl (fun K hK=>?_);go_big_quiet_op;refine hK _ ?_;clear hK K)
      | (refine AWq.skip rfl rfl rfl ?_;simp only[Act.put,zq6,zq7,zq8]))
     refine AWq.done rfl rfl rfl (fun w5 x5=>?_);simp only[zl,Act.put,zq6,zq7,zq8];go_wp2_with fail
     go_ret;exact⟨by rw[HNe.out];rfl,HE.out.trans x5⟩
   ·obtain rfl:k=a.length:=by omega
    have hr:Hid (r=true):=HR.out.2 (by have:=ht.out;rw[List.take_length] at this;rw[hlen,List.take_length] at this;exact this);clear hE h3 k3 ht HR;go_wp2_with fail
    go_ret;exact⟨by rw[hr.out];rfl,HE.out⟩
 ·have dl:((a.length:Int) != b.length)=true:=by simp;omega
  have hr:Hid (r=false):=HR.out.1 (fun e=>hlen (by rw[e]));clear h3 k3 HR;go_enter Tryz.func57,Tryz.ntmps57;go_wp2_with fail
  go_ret;exact⟨by rw[hr.out];rfl,Ext.refl _⟩
def zax (v:Ver):Prop:=in64 v.by_∧in64 v.n
end
section
open Go.RowKit
def itemsB (l:List Ver):Bool:=l.all zD&&decide (l=setL Ver.lt l)
theorem zk7 {f:List Ver} {k:Nat} (h:k<f.length) (h1:(f.take k).all zD=true) (h2:zD f[k]=true):(f.take (k+1)).all zD=true:=by
 rw[List.take_succ_eq_append_getElem h,List.all_append,h1];simp[h2]
theorem zmy {f:List Ver} {k:Nat} (h:k<f.length) (h2:zD f[k]=false):f.all zD=false:=by
 rw[List.all_eq_false];exact⟨f[k],List.getElem_mem h,by simp[h2]⟩
theorem zjI (w:World) (v:Value) (f:List Ver) (h:Sl w 2 v (f.map Ver.cells)) (hl:f.length≤90000):Calls Tryz.prog 165 #[v] w (Ret (.bool (itemsB f)) w):=by
 have HOf:=fun W (hW:Ext w W)=>hid (iof_c W v f (h.ext hW) (by omega));have HEq:=fun W (hW:Ext w W) u (hu:Sl W 2 u ((setL Ver.lt f).map Ver.cells))=>hid (zeU W v u f (setL Ver.lt f) (h.ext hW) hu);obtain⟨A,c,rfl,h1,h2,h3⟩:=zr h;unfold maxLen at h2;have HCh:=fun W x=>hid (zbx x W);have HR:Hid (∀ b,(f.all zD=b)→itemsB f=(b&&decide (f=setL Ver.lt f))):=fun b hb=>by unfold itemsB;rw[hb]
 have H3:=hid h3;unfold Ver.val at HCh;clear h h3 hl;go_enter Tryz.func165,Tryz.ntmps165;go_wp2_with fail
 go_loopw [7] (fun s7 wr=>∃ k:Nat,k≤f.length∧s7=.int .i64 k∧Hid (Ext w wr)∧Hid ((f.take k).all zD=true)) (fun s7 _=>f.length-(intOf s7).toNat)
 case atStart=>exact⟨0,by omega,rfl,Ext.refl _,rfl⟩
 case round=>
  obtain⟨k,hk,rfl,hE,hA⟩:=hrel;by_cases hlt:k<f.length
  ·have d1:decide ((k:Int)<f.length)=true:=decide_eq_true (by omega)
   have d1':decide (k<f.length)=true:=decide_eq_true hlt;obtain⟨b,o,rfl,lb,hcell⟩:=H3.out (by omega);have c0:=hE.out.cell (hcell k hlt 0 _ rfl);have c1:=hE.out.cell (hcell k hlt 1 _ rfl);rw[Nat.add_zero] at c0;have lbr:=Nat.lt_of_lt_of_le lb hE.out.size;have HC:=fun W=>HCh W f[k];have HT:=hid (fun h=>zk7 hlt hA.out h);have HF:=hid (fun h=>zmy hlt h);clear hcell H3 HCh hA HOf HEq lb;generalize f[k]=x at c0 c1 HC HT HF;cases hr:zD x with
   | true=>
    have hT:=hid (HT.out hr)
    (rw[zbW hr] at HC)
    clear hr HT HF;go_wp2_with fail
    refine((HC _).out).mono ?_;rintro e w2 ⟨rfl,x2⟩;have hE2:=hid ((hE.out.alloc' _).trans x2);clear hE x2 HC;go_wp2_with fail
    go_roundw
    case rel=>exact⟨k+1,by omega,by go_num,hE2,hT⟩
    case measure=>simp[intOf];omega
   | false=>
    have hV:=hid (HR.out false (HF.out hr));rw[Bool.false_and] at hV
    (rw[zcG hr] at HC)
    clear hr HT HF HR;go_wp2_with fail
    refine((HC _).out).mono ?_;rintro e w2 ⟨rfl,x2⟩;have hE2:=hid ((hE.out.alloc' _).trans x2);clear hE x2 HC;go_wp2_with fail
    go_ret;exact⟨by rw[hV.out];rfl,hE2.out⟩
  ·obtain rfl:k=f.length:=by omega
   rw[List.take_length] at hA;have HV:=hid (HR.out true hA.out);rw[Bool.true_and] at HV;clear hA hlt hk H3 HR HCh;go_wp2_with fail
   refine((HOf _ hE.out).out).mono ?_;rintro e w2 ⟨u,rfl,hu,x2⟩;have hu2:=hid hu.1;have hE2:=hid (hE.out.trans x2);clear hu x2 hE;go_wp2_with fail
   refine((HEq _ hE2.out _ hu2.out).out).mono ?_;rintro e w3 ⟨rfl,x3⟩;have hE3:=hid (hE2.out.trans x3);clear x3;go_wp2_with fail
   go_ret;exact⟨by rw[HV.out];rfl,hE3.out⟩
end
section
open Go.RowKit
theorem zgb {α:Type} {enc:α→ByteArray} {x:α}:∀ {l:List α},x∈l→(enc x).size≤(encL (l.map fun x=>fT (enc x))).length
 | [],h=>by cases h
 | y::l,h=>by
  have h1:(fT (enc y)).enc.length=(lebL (enc y).size).length+(enc y).size:=by
   show(lebL (enc y).size++(enc y).data.toList).length=_
   rw[List.length_append,Array.length_toList];rfl
  rw[List.map_cons,zah,List.length_append,h1];rcases List.mem_cons.1 h with rfl | h
  ·omega
  ·have:=zgb (enc:=enc) h;omega
theorem zer {α:Type} {enc:α→ByteArray} {l:List α} {x:α} (hx:x∈l) (hb:¬ (enc x).size≤65536):capB (zg enc l)=⟨#[]⟩:=by
 refine if_neg ?_;rw[za9,zah,List.length_append];have:=zgb (enc:=enc) hx;omega
theorem zlV (w:World) (v:Value) (l:List Ver) (enc:Ver→ByteArray) (h:Sl w 2 v (l.map Ver.cells)) (hl:l.length≤100000) (hone:∀ x∈l,∀ W,Ext w W→Calls Tryz.prog 163 #[.agg #[.int .i64 x.by_,.int .i64 x.n]] W (Ret (.string (capB (enc x))) W)) (hpos:∀ x∈l,0<(enc x).size):Calls Tryz.prog 161 #[v,.func (.func 163) #[] #[]] w (Ret (.string (capB (zg enc l))) w):=by
 obtain⟨A,c,rfl,h1,h2,h3⟩:=zr h;unfold maxLen at h2;have HN:=fun W n=>hid (fN_c W n);have HT:=fun W s=>hid (fT_c W s);have HOne:=hid hone;have HPos:=hid hpos;have HBig:=hid (fun x (hx:x∈l) (hb:¬ (enc x).size≤65536)=>zer hx hb);have HP:=fun(hfit:∀ x∈l,(enc x).size≤65536) W u (h:Sl W 3 u ((fN l.length::l.map (fun x=>fT (enc x))).map FldI.cells))=>hid (zeH W u (fN l.length::l.map (fun x=>fT (enc x))) h (fun f hf=>by
  rcases List.mem_cons.1 hf with rfl | hf
  ·exact⟨Nat.zero_le _,fun _=>Int.natCast_nonneg _,by show(l.length:Int)≤_;omega⟩
  ·obtain⟨x,hx,rfl⟩:=List.mem_map.1 hf
   exact⟨hfit x hx,fun h=>(by(have h:true=false:=h);cases h),by show(0:Int)≤_;omega⟩) (by simp))
 have e9:capL (fN l.length::l.map (fun x=>fT (enc x)))=capB (zg enc l):=rfl;rw[e9] at HP;generalize capB (zg enc l)=R at HP HBig⊢;have H3:=hid h3;clear h h3 hone hpos e9;go_enter Tryz.func161,Tryz.ntmps161;go_wp2_with fail
 refine((HN _ _).out).mono ?_;rintro en w1 ⟨rfl,x1⟩;have HE1:=hid x1;clear x1;have HF0:Hid (OwnF [fN l.length] w.heap.size (.slice (some ⟨w1.heap.size,0,none⟩) 1 1) (w1.alloc (.cells #[.int .i64 l.length,.string ⟨#[]⟩,.bool false] 140))):=zaH HE1.out.size 140 3 1 #[.int .i64 l.length,.string ⟨#[]⟩,.bool false] (by unfold maxLen;omega) rfl;have HE2:=hid (HE1.out.alloc' (.cells #[.int .i64 l.length,.string ⟨#[]⟩,.bool false] 140));go_wp2_with fail
 generalize w1.alloc (.cells #[.int .i64 l.length,.string ⟨#[]⟩,.bool false] 140)=w2 at HF0 HE2⊢;obtain⟨v0,hv0⟩:∃ v0,v0=Value.slice (some ⟨w1.heap.size,0,none⟩) 1 1:=⟨_,rfl⟩
 go_loopw [5,15] (fun s5 s15 wr=>∃ (k:Nat) (ov:Value),ov=s5∧k≤l.length∧s15=.int .i64 k∧Hid (Ext w wr)∧Hid (∀ x∈l.take k,(enc x).size≤65536)∧Hid (OwnF (fN l.length::(l.take k).map (fun x=>fT (enc x))) w.heap.size s5 wr)) (fun _ s15 _=>l.length-(intOf s15).toNat)
 case atStart=>exact⟨0,_,rfl,by omega,rfl,HE2,fun x hx=>by simp at hx,HF0⟩
 case round=>
  obtain⟨k,s5,rfl,hk,rfl,hE,hFit,hO⟩:=hrel;clear HF0 HE2 HE1 hv0 HN;by_cases hlt:k<l.length
  ·have d1:decide ((k:Int)<l.length)=true:=decide_eq_true (by omega)
   have d1':decide (k<l.length)=true:=decide_eq_true hlt;obtain⟨b,o,rfl,lb,hcell⟩:=H3.out (by omega);have c0:=hE.out.cell (hcell k hlt 0 _ rfl);have c1:=hE.out.cell (hcell k hlt 1 _ rfl);rw[Nat.add_zero] at c0;have lbr:=Nat.lt_of_lt_of_le lb hE.out.size;have HM:Hid ((l.take (k+1)).map (fun x=>fT (enc x))=(l.take k).map (fun x=>fT (enc x))++[fT (enc l[k])]):=by
    unfold Hid;rw[List.take_succ_eq_append_getElem hlt,List.map_append];rfl
   have HC:=HOne.out l[k] (List.getElem_mem hlt);have hp:=(HPos.out l[k] (List.getElem_mem hlt))
   have HBk:=hid (HBig.out l[k] (List.getElem_mem hlt));have HFt:Hid ((enc l[k]).size≤65536 → ∀ x∈l.take (k+1),(enc x).size≤65536):=fun h9 x hx=>by
    rw[List.take_succ_eq_append_getElem hlt] at hx;rcases List.mem_append.1 hx with hx | hx
    ·exact hFit.out x hx
    ·rw[List.mem_singleton.1 hx];exact h9
   have hlen:((l.take k).map (fun x=>fT (enc x))).length≤100000:=by rw[List.length_map,List.length_take];omega
   clear H3 hcell HOne HPos HP HBig hFit;generalize hacc1:(l.take (k+1)).map (fun x=>fT (enc x))=acc1 at HM;have HA1:=hid hacc1;clear hacc1;generalize hacc:(l.take k).map (fun x=>fT (enc x))=acc at hO HM hlen;clear hacc;generalize l[k]=x at c0 c1 HC HM hp HBk HFt;by_cases hfit:(enc x).size≤65536
   ·have hcap:capB (enc x)=enc x:=if_pos hfit
    rw[hcap] at HC;have HFt:=hid (HFt.out hfit);have d0:(enc x).toList.isEmpty=false:=by
     cases h:(enc x).toList.isEmpty with
     | false=>rfl
     | true=>rw[←zcc,List.isEmpty_iff.1 h] at hp;exact absurd hp (by decide)
    clear hp hfit hcap HBk;generalize enc x=r at HC HM d0;go_wp2_with fail
    refine(HC _ (hE.out.alloc' _)).mono ?_;rintro en w3 ⟨rfl,x3⟩;have hO3:=hid (hO.out.ext ((Ext.alloc _ _).trans x3));have hE3:=hid (hE.out.trans ((Ext.alloc _ _).trans x3));clear x3 c0 c1 lbr lb hE hO HC;go_wp2_with fail
    refine((HT _ _).out).mono ?_;rintro en w4 ⟨rfl,x4⟩;have hO4:=hid (hO3.out.ext x4);have hE4:=hid (hE3.out.trans x4);clear x4 hO3 hE3;obtain⟨v',w6,hrun6,ho6,hk6,_⟩:=zaJ (P:=Tryz.prog) zbF fld_coded hO4.out hE4.out.size (fT r) (by simp;omega) (by omega);simp only[FldI.cells,fT] at hrun6;have HE6:=hid (hk6.toExt hE4.out (fun q hq=>(zt hO4.out q hq).1));have HO6:Hid (OwnF (fN l.length::acc1) w.heap.size v' w6):=by
     rw[HM.out];exact ho6
    clear ho6 hk6;go_wp2_with (at_builtin;refine zx rfl (.tmp 24) (.tmp 27) _ _ rfl rfl rfl hrun6 ?_)
    go_roundw
    case rel=>exact⟨k+1,_,rfl,by omega,by go_num,HE6,HFt.out,by rw[HA1.out];exact HO6⟩
    case measure=>simp[intOf];omega
   ·have hcap:capB (enc x)=⟨#[]⟩:=if_neg hfit
    rw[hcap] at HC;have HR:=hid (HBk.out hfit);clear hp hfit hcap HBk HFt HM HA1 HT;go_wp2_with fail
    refine(HC _ (hE.out.alloc' _)).mono ?_;rintro en w3 ⟨rfl,x3⟩;have hE3:=hid (hE.out.trans ((Ext.alloc _ _).trans x3));clear x3 c0 c1 lbr lb hE hO HC;go_wp2_with fail
    go_ret;exact⟨by rw[HR.out];try rfl,hE3.out⟩
  ·obtain rfl:k=l.length:=by omega
   rw[List.take_length] at hO hFit;have HS:=hid hO.out.sl;have HP':=HP hFit.out;clear hlt hk H3 HOne HPos hO HT HP HBig;go_wp2_with fail
   refine((HP' _ _ HS.out).out).mono ?_;rintro en w7 ⟨rfl,x7⟩;have HE7:=hid (hE.out.trans x7);clear x7;go_wp2_with fail
   go_ret;exact⟨rfl,HE7.out⟩
end
end Go.Proofs.YtofjpdgojoppbaaGreatDoor
