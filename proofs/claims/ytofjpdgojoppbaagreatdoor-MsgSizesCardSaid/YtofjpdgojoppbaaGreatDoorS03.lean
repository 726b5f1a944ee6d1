/-
  Of the claim's proof: App.
-/
import Derived.Deep.Upon
import Derived.Test.YtofjpdgojoppbaaGreatDoorS01
set_option maxRecDepth 100000
set_option maxHeartbeats 16000000
set_option linter.unusedVariables false
set_option linter.unusedSimpArgs false
namespace Go.Proofs.YtofjpdgojoppbaaGreatDoor
open Go.RowKit
def Firm (B N:Nat) (full:List Value) (w w':World):Prop:=
 B≤w.heap.size→Below B w w' ∧ ∀ g t cs,B≤g→Blk w g t cs → ∃ cs',Blk w' g t cs'∧cs'.size=cs.size∧cs'.toList.take N=cs.toList.take N∧(cs.toList.take full.length=full→cs'.toList.take full.length=full)
theorem Firm.ofExt {B N:Nat} {full:List Value} (w w':World) (h:Ext w w'):Firm B N full w w':=fun hB=>⟨h.below hB,fun _ _ cs _ hb=>⟨cs,hb.ext h,rfl,rfl,fun h=>h⟩⟩
def Own (B:Nat) (e:TypeId) (sz n:Nat) (xs:List Value) (v:Value) (w:World):Prop:=
 B≤w.heap.size∧xs.length=n*sz ∧ ∃ g cap cs,v=.slice (some ⟨g,0,none⟩) n cap∧B≤g∧Blk w g e cs∧n≤cap∧cap≤maxLen∧cs.size=cap*sz∧cs.toList.take (n*sz)=xs
section
variable {P:Program}
theorem zha {t tx ty e:TypeId} {i:TypeInfo} {z:Value} {sz bytes:Nat} (ht:P.underlying t=some (.slice e)) (hi:P.info? e=some i) (hz:i.zero=some z) (hsize:i.size=sz) (hby:i.bytes=bytes) (hzs:z.cells.size=sz)
  {w:World} {B:Nat} (hB:B≤w.heap.size) {base:Option Addr} {n c:Nat} {olds:List Value} (hol:olds.length=n*sz) (hold:∀ b,base=some b → ∀ j u,olds[j]? = some u→w.cell? (b.add j)=some u) (hnone:base=none→n=0)
  {x:Value} {m:Nat} {news:List Value} (hs:Src P sz tx x m news w) (hg:c<n+m) (h63:n+m≤maxLen) (hbytes:(n+m)*bytes≤140737488355328) :
  ∃ v' w',(Builtin.append_ #[t,tx] ty #[.slice base n c,x]).run P w=.ok v' w'∧Own B e sz (n+m) (olds++news) v' w'∧Ext w w':=by
 subst hsize;subst hby;have hsmall:n+m≤9223372036854775807:=by simp only[maxLen] at h63;omega
 have hf:(Builtin.firstCells i.size n (.slice base n c)).run P w.drew=.ok olds.toArray w.drew:=by
  cases base with
  | none=>
   obtain rfl:=hnone rfl;obtain rfl:olds=[]:=List.eq_nil_of_length_eq_zero (by simpa using hol);exact run_firstCells_none w.drew i.size 0 0 c
  | some b=>exact run_firstCells_some (P:=P) w.drew i.size n b n c olds hol (by simpa using hold b rfl)
 have hr:=run_append_grow_src (P:=P) w t tx ty e i z ht hi hz base n c olds hf x m news hs hg (by omega) (growslice_fits hg hbytes);have hge:=grownCap_ge w (n+m) c e;have hcm:grownCap w (n+m) c e≤maxLen:=grownCap_le_maxLen w (n+m) c e h63;have hlen:(olds++news).length=(n+m)*i.size:=by rw[List.length_append,hol,hs.newsLen,Nat.add_mul]
 refine⟨_,_,hr,⟨by simp;omega,hlen,w.heap.size,_,_,rfl,hB,(heap_alloc_new w.drew (.cells ((olds++news).toArray++Builtin.zeroCells z.cells (grownCap w (n+m) c e-(n+m))) e):_),hge,hcm,?_,?_⟩,?_⟩
 ·simp only[Array.size_append,List.size_toArray,size_zeroCells,hzs,hlen,←Nat.add_mul]
  congr 1
  omega
 ·simp only[Array.toList_append]
  rw[←hlen];exact List.take_left
 ·exact((Ext.refl w).drew').alloc' _
theorem zjk {t tx ty e:TypeId} {i:TypeInfo} {z:Value} {sz bytes:Nat} (ht:P.underlying t=some (.slice e)) (hi:P.info? e=some i) (hz:i.zero=some z) (hsize:i.size=sz) (hby:i.bytes=bytes) (hzs:z.cells.size=sz)
  {w:World} {B N:Nat} {n:Nat} {xs:List Value} {v:Value} (hv:Own B e sz n xs v w) (hN:N=n*sz)
  {x:Value} {m:Nat} {news:List Value} (hs:Src P sz tx x m news w) (h63:n+m≤maxLen) (hbytes:(n+m)*bytes≤140737488355328) :
  ∃ v' w',(Builtin.append_ #[t,tx] ty #[v,x]).run P w=.ok v' w'∧Own B e sz (n+m) (xs++news) v' w'∧Firm B N (xs++news) w w':=by
 subst hN;obtain⟨hB,hl,g,cap,cs,rfl,h2,h3,h4,h5,h6,h7⟩:=hv;have hcells:∀ j u,xs[j]? = some u→w.cell? ⟨g,0+j,none⟩=some u:=fun j u hu=>by
  rw[Nat.zero_add];refine h3.cell ?_;rw[←h7,List.getElem?_take] at hu
  split at hu
  ·simpa using hu
  ·cases hu
 by_cases hg:cap<n+m
 ·obtain⟨v',w',hr,ho,he⟩:=zha (P:=P) (tx:=tx) (ty:=ty) ht hi hz hsize hby hzs hB (base:=some ⟨g,0,none⟩) (n:=n) (c:=cap) hl (fun b hb j u hu=>by injection hb with hb;subst hb;rw[Addr.add_lit];exact hcells j u hu) (fun h=>by cases h) hs hg h63 hbytes
  exact⟨v',w',hr,ho,Firm.ofExt _ _ he⟩
 ·subst hsize
  have hm1:(n+m)*i.size≤cap*i.size:=Nat.mul_le_mul_right _ (by omega);have hnl:=hs.newsLen;have hr:=run_append_room_src (P:=P) w t tx ty e i ht hi g 0 n cap x m news hs (by omega) (fun j hj=>by
   have hlt:0+n*i.size+j<cs.size:=by rw[Nat.add_mul] at hm1;omega
   rw[h3.cell (v:=cs[0+n*i.size+j]) (by simp)];rfl) (fun j _=>h3.frozen _)
  have hset:∀ (vs:List Value) (k:Nat) (w1:World) (c1:Array Value),Blk w1 g e c1→k+vs.length≤c1.size → ∃ c2,Blk (w1.setCells g k vs) g e c2∧c2.size=c1.size∧c2.toList=c1.toList.take k++vs++c1.toList.drop (k+vs.length)∧Below B (w1) (w1.setCells g k vs) ∧ ∀ q,q≠g→(w1.setCells g k vs).heap[q]? = w1.heap[q]?:=by
   intro vs
   induction vs with
   | nil=>intro k w1 c1 hb hk;exact⟨c1,hb,rfl,by simp,Below.refl _ _,fun _ _=>rfl⟩
   | cons u vs ih=>
    intro k w1 c1 hb hk;simp only[List.length_cons] at hk;obtain⟨c2,b2,s2,t2,e2,f2⟩:=ih (k+1) (w1.setCell ⟨g,k,none⟩ u) _ (hb.set k u) (by simp;omega);refine⟨c2,b2,by simpa using s2,?_,Below.trans (Below.setCell (Below.refl _ _) (p:=⟨g,k,none⟩) h2 u) e2,fun q hq=>(f2 q hq).trans (Below.heap_setCell w1 ⟨g,k,none⟩ u q hq)⟩;rw[t2];have hk':k<c1.toList.length:=by simp;omega
    have hlk:(c1.toList.take k).length=k:=by rw[List.length_take];omega
    have hX:(c1.toList.take k++[u]).length=k+1:=by simp only[List.length_append,hlk,List.length_singleton]
    have e1:(c1.setIfInBounds k u).toList=(c1.toList.take k++[u])++c1.toList.drop (k+1):=by
     rw[Array.toList_setIfInBounds,List.set_eq_take_append_cons_drop,if_pos hk',List.append_assoc];rfl
    rw[e1,List.take_left' hX,List.drop_append,List.drop_of_length_le (by omega),List.nil_append,hX,show k+1+vs.length-(k+1)=vs.length by omega,List.drop_drop,List.append_assoc,List.length_cons,show k+1+vs.length=k+(vs.length+1) by omega];simp
  obtain⟨c2,b2,s2,t2,e2,f2⟩:=hset news (0+n*i.size) w cs h3 (by rw[hnl,Nat.zero_add,←Nat.add_mul];omega);rw[Nat.zero_add] at hr b2 t2 e2 f2;have htk:c2.toList.take (n*i.size+news.length)=xs++news:=by
   rw[t2,h7,←hl,←List.length_append];exact List.take_left
  have hfull:(xs++news).length=n*i.size+news.length:=by rw[List.length_append,hl]
  refine⟨_,_,hr,⟨Nat.le_trans hB e2.size,by rw[hfull,hnl,Nat.add_mul],g,cap,c2,rfl,h2,b2,by omega,h5,s2.trans h6,by rw[Nat.add_mul,←hnl];exact htk⟩,fun _=>⟨e2,fun q t c hq hb=>?_⟩⟩;by_cases hqg:q=g
  ·subst hqg
   have:c=cs∧t=e:=by
    unfold Blk at hb h3;rw[h3] at hb;injection hb with hb
    injection hb with hb hb2
    exact⟨hb.symm,hb2.symm⟩
   obtain⟨rfl,rfl⟩:=this;refine⟨c2,b2,s2,?_,fun _=>by rw[hfull];exact htk⟩;rw[t2,List.append_assoc];have hlk:(c.toList.take (n*i.size)).length=n*i.size:=by rw[h7,hl]
   exact List.take_left' hlk
  ·exact⟨c,(f2 q hqg).trans hb,rfl,rfl,fun h=>h⟩
end
end Go.Proofs.YtofjpdgojoppbaaGreatDoor
