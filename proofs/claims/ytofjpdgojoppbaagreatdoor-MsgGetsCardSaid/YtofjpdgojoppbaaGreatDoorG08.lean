/-
  Of the claim's proof: GnA, MsA, AwC.
-/
import Derived.Deep.RegionHeld3
import Derived.Deep.MidRow
import Derived.Great.BuildSlice
import Derived.Test.YtofjpdgojoppbaaGreatDoorG02
import Derived.Test.YtofjpdgojoppbaaGreatDoorG06
import Derived.Test.YtofjpdgojoppbaaGreatDoorG07
set_option maxRecDepth 100000
set_option maxHeartbeats 16000000
set_option linter.unusedVariables false
set_option linter.unusedSimpArgs false
namespace Go.Proofs.YtofjpdgojoppbaaGreatDoor
section
open Go.RowKit
structure SlV where
 a:Option Addr
 n:Nat
 c:Nat
def SlV.val (s:SlV):Value:=.slice s.a s.n s.c
theorem zv {P:Program} {w:World} {b off:Nat} {cs:Array Value} (h:∀ (j:Nat) v,cs[j]? = some v→w.cell? ⟨b,off+j,none⟩=some v) (n:Nat) (hn:cs.size=n):(loadCellsFrom ⟨b,off,none⟩ 0 n #[]).run P w=.ok cs w:=by
 subst hn;have:=run_loadCells_list (P:=P) w ⟨b,off,none⟩ cs.toList (fun j v hv=>by
  have hadd:(⟨b,off,none⟩:Addr).add j=⟨b,off+j,none⟩:=Addr.add_lit _ _ _;rw[hadd];exact h j v (by simpa using hv))
 simpa[loadCells] using this
def intsV (l:List Int):List Value:=l.map (Value.int .i64)
theorem zR (l:List Int):(intsV l).length=l.length:=by simp[intsV]
theorem intsV_one (l:List Int):∀ v∈intsV l,v.oneCell'=true:=by
 intro v hv;obtain⟨x,_,rfl⟩:=List.mem_map.1 hv;rfl
def nilS:SlV:=⟨none,0,0⟩
theorem zbS {P:Program} {t e:TypeId} {sz bytes:Nat} (hE:Elem P t e sz bytes) (w:World) (xs:List (Array Value)) (hx:∀ x∈xs,x.size=sz) (hs:0<sz) (hn:xs≠[]) (hsm:xs.length*sz≤16777216) (parts:Array (Nat×Value)) (hp:parts.toList=((xs.map Value.agg).zipIdx 0).map fun x=>(x.2,x.1)):(Instr.buildSlice t xs.length parts).run P w=.ok (.slice (some ⟨w.heap.size,0,none⟩) xs.length xs.length) (w.alloc (.cells (xs.flatMap Array.toList).toArray e)):=by
 obtain⟨ht,i,z,hi,hz,rfl,rfl,hzs⟩:=hE;have hpos:0<xs.length:=List.length_pos_iff.2 hn;have h0:0<xs.length*i.size:=Nat.mul_pos hpos hs;refine run_buildSlice w t e xs.length parts _ i z ht hi hz (by show ¬ xs.length*i.size>16777216;omega) (by omega) ?_;rw[hp];have:=Great.fill_whole hs (xs.map Value.agg) ((Array.range (xs.length*i.size)).map (z.cells[· % z.cells.size]!)) (fun v hv=>by
  obtain⟨x,hx',rfl⟩:=List.mem_map.1 hv;exact hx x hx') (by simp)
 rw[List.flatMap_map] at this;exact this
theorem Blk.setCells {g:Nat} {t:TypeId}:∀ (vs:List Value) {w:World} {cs:Array Value} (_:Blk w g t cs) (k:Nat) (_:k+vs.length≤cs.size),Blk (w.setCells g k vs) g t (cs.toList.take k++(vs++cs.toList.drop (k+vs.length))).toArray
 | [],w,cs,h,k,hk=>by
  have e:(cs.toList.take k++([]++cs.toList.drop (k+([]:List Value).length))).toArray=cs:=by simp
  rw[e];exact h
 | v::vs,w,cs,h,k,hk=>by
  rw[List.length_cons] at hk;have:=Blk.setCells vs (h.set k v) (k+1) (by simp;omega);have e:((cs.setIfInBounds k v).toList.take (k+1)++(vs++(cs.setIfInBounds k v).toList.drop (k+1+vs.length)))=cs.toList.take k++(v::vs++cs.toList.drop (k+(v::vs).length)):=by
   rw[Array.toList_setIfInBounds];have hkl:k<cs.toList.length:=by rw[Array.length_toList];omega
   rw[List.take_succ_eq_append_getElem (by rw[List.length_set];exact hkl),List.getElem_set_self,List.take_set_of_le (Nat.le_refl _),List.drop_set_of_lt (by omega),List.length_cons,List.append_assoc,show k+1+vs.length=k+(vs.length+1) by omega];rfl
  rw[e] at this;exact this
theorem Keep.setCells {S:Nat→Prop} {a:World} {g:Nat} (hg:S g∨a.heap.size≤g):∀ (vs:List Value) {b:World} (_:Keep S a b) (k:Nat),Keep S a (b.setCells g k vs)
 | [],_,h,_=>h
 | v::vs,b,h,k=>Keep.setCells hg vs (h.setCell (p:=⟨g,k,none⟩) hg v) (k+1)
theorem Blk.there {w:World} {g:Nat} {t:TypeId} {cs:Array Value} (h:Blk w g t cs) (o n:Nat) (hn:o+n≤cs.size):w.there g o n:=fun j hj=>⟨by rw[h.cell (v:=cs[o+j]'(by omega)) (by rw[Array.getElem?_eq_getElem (by omega)])];rfl,h.frozen _⟩
theorem zN {w:World} {B:Nat} {e t:TypeId} {sz:Nat} {v:Value} {n:Nat} {xs:List Value} (h:w.ownsRow B e sz v n xs) {g:Nat} {cs:Array Value} (hb:Blk w g t cs) (hne:e≠t):¬ v.ownBlock=some g:=fun ha=>by
 rcases h.2 with⟨rfl,_⟩ | ⟨g',cap,cur,rfl,_,hg,_⟩
 ·simp[Value.ownBlock] at ha
 ·simp[Value.ownBlock] at ha
  subst ha;have:=hg.symm.trans hb;injection this with this
  injection this with _ this
  exact hne this
theorem zex {w:World} {B:Nat} {e:TypeId} {sz:Nat} {v:Value} {n:Nat} {xs:List Value} (h:w.ownsRow B e sz v n xs):∃ s:SlV,v=s.val:=by
 rcases h.2 with⟨rfl,_⟩ | ⟨g',cap,cur,rfl,_⟩
 ·exact⟨nilS,rfl⟩
 ·exact⟨⟨_,_,_⟩,rfl⟩
theorem zfu {w:World} {B B':Nat} {e e':TypeId} {sz sz':Nat} {v v':Value} {n n':Nat} {xs xs':List Value} (h:w.ownsRow B e sz v n xs) (h':w.ownsRow B' e' sz' v' n' xs') (hne:e≠e') (q:Nat) (hq:v.ownBlock=some q):¬ v'.ownBlock=some q:=fun hq'=>by
 rcases h'.2 with⟨rfl,_⟩ | ⟨g',cap,cur,rfl,_,hg,_⟩
 ·simp[Value.ownBlock] at hq'
 ·simp[Value.ownBlock] at hq'
  subst hq';exact zN h (show Blk w g' e' cur from hg) hne hq
theorem zh8 {P:Program} {o:Oper} {a:Act} {w:World} {ψ:Value→World→Prop} (t:TypeId) (parts:Array (Nat×Operand)) (cells:Array Value) (ho:o.op=.build t parts) (hc:P.built t (parts.map fun(i,x)=>(i,a.eval x)).toList=some cells) (h:ψ (.agg cells) w):Gives P ψ ((execOp a.eval o).run P w):=by
 unfold execOp;simp only[ho,Sem.run_bind,run_build w t _ cells hc,Result.andThen_ok];exact h
theorem zI {P:Program} {o:Oper} {T:TypeId} {x:Operand} {p:Addr} {cs:Array Value} {a:Act} {C:World→Prop} {K:Act→Prop} (hop:o.op=.load T x) (hx:a.eval x=.pointer (some p)) (hld:∀ w,C w→(loadVar T p).run P w=.ok (.agg cs) w) (hK:K (a.put o.dst (.agg cs))):o.quiet P a C K:=by
 refine⟨.agg cs,fun w hw=>?_,hK⟩;have h1:=hld w hw;simp only[Oper.quietAt,execOp,hop,hx,Instr.loadAt,Instr.sureAddr,Sem.run_bind,Sem.run_pure,Result.andThen,h1];exact⟨rfl,rfl⟩
theorem zar {P:Program} {w:World} {g o:Nat} {t:TypeId} {cs:Array Value} {vs:List Value} (h:Blk w g t cs) (hle:o+vs.length≤cs.size) (h1:∀ v∈vs,v.oneCell'=true):(storeCells ⟨g,o,none⟩ vs).run P w=.ok () (w.setCells g o vs):=by
 have:=run_storeCells_cells (P:=P) g o vs 0 w (fun j hj=>by simpa using(h.there o vs.length hle j hj).1) (fun j hj=>by simpa using(h.there o vs.length hle j hj).2) h1;simpa using this
end
section
open Go.RowKit
structure MsgC where
 kind:Int
 s1:Int
 s2:Int
 s3:Int
 r1:Int
 r2:Int
 r3:Int
 up:Bool
 f:SlV
 k1:SlV
 k2:SlV
 held:SlV
 seq:Int
 last:Bool
 ents:SlV
 V:List Int
 A:List Int
 not:SlV
 code:Int
 hV:V.length=65
 hA:A.length=65
def MsgC.head (m:MsgC):List Value:=[.int .i64 m.kind,.int .i64 m.s1,.int .i64 m.s2,.int .i64 m.s3,.int .i64 m.r1,.int .i64 m.r2,.int .i64 m.r3,.bool m.up,m.f.val,m.k1.val,m.k2.val,m.held.val,.int .i64 m.seq,.bool m.last,m.ents.val]
def MsgC.list (m:MsgC):List Value:=m.head++(intsV m.V++(intsV m.A++[m.not.val,.int .i64 m.code]))
def MsgC.arr (m:MsgC):Array Value:=m.list.toArray
theorem za1 (m:MsgC):m.head.length=15:=rfl
theorem msg_len (m:MsgC):m.list.length=147:=by
 unfold MsgC.list;rw[List.length_append,List.length_append,List.length_append,zR,zR,m.hV,m.hA,za1];rfl
theorem zJ (m:MsgC):m.arr.size=147:=by unfold MsgC.arr;rw[List.size_toArray];exact msg_len m
theorem zl0 (m:MsgC):∀ v∈m.list,v.oneCell'=true:=by
 intro v hv;unfold MsgC.list at hv;rcases List.mem_append.1 hv with h | h
 ·unfold MsgC.head at h
  simp only[List.mem_cons,List.not_mem_nil,or_false] at h;rcases h with rfl | rfl | rfl | rfl | rfl | rfl | rfl | rfl | rfl | rfl | rfl | rfl | rfl | rfl | rfl <;> rfl
 rcases List.mem_append.1 h with h | h
 ·exact intsV_one _ v h
 rcases List.mem_append.1 h with h | h
 ·exact intsV_one _ v h
 ·simp only[List.mem_cons,List.not_mem_nil,or_false] at h
  rcases h with rfl | rfl <;> rfl
theorem zan (m:MsgC):m.arr.all (·.oneCell')=true:=all_oneCell_toArray (zl0 m)
theorem zK:(Tryz.prog.info? 36).map (·.size)=some 147:=by kernel_rfl
def msgZ:MsgC:=⟨0,0,0,0,0,0,0,false,nilS,nilS,nilS,nilS,0,false,nilS,vec0,vec0,nilS,0,by simp[vec0],by simp[vec0]⟩
theorem zbJ (m:MsgC) (j:Nat) (v:Value) (h:(intsV m.V)[j]? = some v):m.arr[15+j]? = some v:=by
 have hj:=(List.getElem?_eq_some_iff.1 h).1;unfold MsgC.arr MsgC.list;rw[List.getElem?_toArray,List.getElem?_append_right (by rw[za1];omega),za1,show 15+j-15=j by omega,List.getElem?_append_left hj];exact h
theorem zbK (m:MsgC) (j:Nat) (v:Value) (h:(intsV m.A)[j]? = some v):m.arr[80+j]? = some v:=by
 have hj:=(List.getElem?_eq_some_iff.1 h).1;unfold MsgC.arr MsgC.list;rw[List.getElem?_toArray,List.getElem?_append_right (by rw[za1];omega),za1,List.getElem?_append_right (by rw[zR,m.hV];omega),zR,m.hV,show 80+j-15-65=j by omega,List.getElem?_append_left hj];exact h
theorem zab (m:MsgC) (j:Nat):m.arr[145+j]? = ([m.not.val,.int .i64 m.code]:List Value)[j]?:=by
 unfold MsgC.arr MsgC.list;rw[List.getElem?_toArray,List.getElem?_append_right (by rw[za1];omega),za1,List.getElem?_append_right (by rw[zR,m.hV];omega),zR,m.hV,List.getElem?_append_right (by rw[zR,m.hA];omega),zR,m.hA,show 145+j-15-65-65=j by omega]
theorem zT (m:MsgC) (j:Nat) (hj:j<15):m.arr[j]? = m.head[j]?:=by
 unfold MsgC.arr MsgC.list;rw[List.getElem?_toArray,List.getElem?_append_left (by rw[za1];exact hj)]
theorem zcc {w:World} {b off:Nat} {cs:Array Value} (hz:cs.size=147) (h:∀ (j:Nat) v,cs[j]? = some v→w.cell? ⟨b,off+j,none⟩=some v):(loadVar 36 ⟨b,off,none⟩).run Tryz.prog w=.ok (.agg cs) w:=by
 have:=run_loadVar_mid (P:=Tryz.prog) w b off 36 cs.toList _ (fun j v hv=>h j v (by simpa using hv)) Tryz.underlying36 rfl (by rw[Array.length_toList,hz];exact zK);simpa using this
end
section
open Go.RowKit
def Btw (p t c:Array Value):Prop:=c.size=p.size ∧ ∀ j:Nat,c[j]? = p[j]? ∨ c[j]? = t[j]?
def relC (g:Nat) (T:TypeId) (p t:Array Value):Rel where
 r a b:=Keep (fun q=>q=g) a b ∧ ∀ c,Blk a g T c→Btw p t c → ∃ c',Blk b g T c'∧Btw p t c' ∧ ∀ j:Nat,c[j]? = t[j]? → c'[j]? = t[j]?
 refl w:=⟨Keep.refl _ _,fun c h b=>⟨c,h,b,fun _ h=>h⟩⟩
 trans a b c h k:=⟨h.1.trans k.1,fun x hx bx=>by
  obtain⟨y,hy,by_,ky⟩:=h.2 x hx bx;obtain⟨z,hz,bz,kz⟩:=k.2 y hy by_;exact⟨z,hz,bz,fun j hj=>kz j (ky j hj)⟩⟩
 ofExt a b h:=⟨Keep.of_ext h,fun c x bx=>⟨c,x.ext h,bx,fun _ h=>h⟩⟩
def facC (w:World) (g:Nat) (T:TypeId) (p t:Array Value) (W:World):Prop:=Keep (fun q=>q=g) w W ∧ ∃ c,Blk W g T c∧Btw p t c
theorem facC.steady (w:World) (g:Nat) (T:TypeId) (p t:Array Value):zau (relC g T p t) (facC w g T p t):=fun a b h ⟨k,c,hc,bc⟩=>by
 obtain⟨y,hy,by_,_⟩:=h.2 c hc bc;exact⟨k.trans h.1,y,hy,by_⟩
theorem facC.start {w:World} {g:Nat} {T:TypeId} {p t:Array Value} (h:Blk w g T p):facC w g T p t w.drew:=⟨Keep.of_ext (Ext.drew w),p,h.ext (Ext.drew w),rfl,fun _=>.inl rfl⟩
def setC (g:Nat) (T:TypeId) (p t:Array Value) (o n:Nat) (W:World):Prop:=∃ c,Blk W g T c∧Btw p t c ∧ ∀ j:Nat,o≤j→j<o+n→c[j]? = t[j]?
theorem setC.steady (g:Nat) (T:TypeId) (p t:Array Value) (o n:Nat):zau (relC g T p t) (setC g T p t o n):=fun a b h ⟨c,hc,bc,kc⟩=>by
 obtain⟨y,hy,by_,ky⟩:=h.2 c hc bc;exact⟨y,hy,by_,fun j h1 h2=>ky j (kc j h1 h2)⟩
theorem zhv {w:World} {g:Nat} {T:TypeId} {c d:Array Value} (h:Blk w g T c) (k:Blk w g T d):c=d:=by
 have h1:w.heap[g]? = some (.cells c T (0,0)):=h;have h2:w.heap[g]? = some (.cells d T (0,0)):=k;rw[h1] at h2;injection h2 with h2
 injection h2
theorem setC.all {w:World} {g:Nat} {T:TypeId} {p t:Array Value} (hs:p.size=t.size) (L:List (Nat×Nat)) (h0:∃ c,Blk w g T c∧Btw p t c) (h:∀ x∈L,setC g T p t x.1 x.2 w) (hd:∀ j:Nat,p[j]? = t[j]? ∨ ∃ x∈L,x.1≤j∧j<x.1+x.2):Blk w g T t:=by
 obtain⟨c,hc,bc⟩:=h0;have e:c=t:=by
  apply Array.ext_getElem?;intro j;rcases hd j with hj | ⟨x,hx,h1,h2⟩
  ·rcases bc.2 j with h3 | h3
   ·rw[h3,hj]
   ·exact h3
  ·obtain⟨d,hd1,_,hd3⟩:=h x hx
   rw[zhv hc hd1];exact hd3 j h1 h2
 rw[←e];exact hc
theorem zat {w:World} {g o:Nat} {T:TypeId} {p t c:Array Value} {vs:List Value} (h:Blk w g T c) (hb:Btw p t c) (hle:o+vs.length≤p.size) (hv:∀ j:Nat,j<vs.length→vs[j]? = t[o+j]?):setC g T p t o vs.length (w.setCells g o vs)∧(relC g T p t).r w (w.setCells g o vs):=by
 obtain⟨c2,h2,s2,t2,k2⟩:=zdt (Nat.le_refl g) vs o w c h (by rw[hb.1];exact hle);have hcs:=hb.1;have hcl:c.toList.length=c.size:=Array.length_toList;have hget:∀ j:Nat,c2[j]? = if o≤j∧j<o+vs.length then t[j]? else c[j]?:=by
  intro j;rw[←Array.getElem?_toList,t2];by_cases h1:o≤j∧j<o+vs.length
  ·rw[if_pos h1,List.append_assoc,List.getElem?_append_right (by rw[List.length_take];omega),List.length_take,Nat.min_eq_left (by omega),List.getElem?_append_left (by omega),hv _ (by omega),show o+(j-o)=j by omega]
  ·rw[if_neg h1]
   by_cases h3:j<o
   ·rw[List.append_assoc,List.getElem?_append_left (by rw[List.length_take];omega),List.getElem?_take,if_pos h3,Array.getElem?_toList]
   ·rw[List.getElem?_append_right (by rw[List.length_append,List.length_take];omega),List.length_append,List.length_take,Nat.min_eq_left (by omega),List.getElem?_drop,show o+vs.length+(j-(o+vs.length))=j by omega,Array.getElem?_toList]
 have b2:Btw p t c2:=⟨s2.trans hb.1,fun j=>by
  rw[hget]
  split
  ·exact .inr rfl
  ·exact hb.2 j⟩
 refine⟨⟨c2,h2,b2,fun j h1 h3=>by rw[hget,if_pos ⟨h1,h3⟩]⟩,k2,fun d hd bd=>⟨c2,h2,b2,fun j hj=>?_⟩⟩;rw[hget]
 split
 ·rfl
 ·rw[zhv h hd];exact hj
theorem zbp {P:Program} {o:Oper} {a:Act} {w:World} {ψ:Value→World→Prop} {T T1:TypeId} {x y:Operand} {g k:Nat} {cs:Array Value} {v:Value} {vs:Array Value} (hop:o.op=.store T1 x y) (hx:a.eval x=.pointer (some ⟨g,k,none⟩)) (hy:a.eval y=v) (hv:v.cells=vs) (h:Blk w g T cs) (hi:(P.info? T1).map (·.size)=some vs.size) (hle:k+vs.size≤cs.size) (h1:∀ u∈vs.toList,u.oneCell'=true) (hψ:ψ undef (w.setCells g k vs.toList)):Gives P ψ ((execOp a.eval o).run P w):=by
 have hr:(storeVar T1 ⟨g,k,none⟩ v).run P w=.ok () (w.setCells g k vs.toList):=by
  have:=zar (P:=P) (vs:=vs.toList) h (by rw[Array.length_toList];exact hle) h1;cases hq:P.info? T1 with
  | none=>simp[hq] at hi
  | some i=>
   have hs:vs.size=i.size:=by simp[hq] at hi;omega
   simp[storeVar,sizeOf,typeInfo,hq,hv,hs,this]
 simp only[execOp,hop,hx,hy,Instr.storeAt,Instr.sureAddr,Sem.run_bind,Sem.run_pure,Result.andThen,hr];exact hψ
end
end Go.Proofs.YtofjpdgojoppbaaGreatDoor
