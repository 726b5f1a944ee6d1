/-
  Of the claim's proof: SoG, VerS, IsV, PvC, KnD, PvD, LyC, MgI.
-/
import Derived.Laws.AppendOwn
import Derived.Shelf.SlSortCmp.NoneTotal
import Derived.Test.YtofjpdgojoppbaaGreatDoorG02
import Derived.Test.YtofjpdgojoppbaaGreatDoorG04
import Derived.Test.YtofjpdgojoppbaaGreatDoorG06
import Derived.Test.YtofjpdgojoppbaaGreatDoorG14
import Derived.Test.YtofjpdgojoppbaaGreatDoorG15
import Derived.Test.YtofjpdgojoppbaaGreatDoorG16
import Derived.Test.YtofjpdgojoppbaaGreatDoorG18
import Derived.Test.YtofjpdgojoppbaaGreatDoorG21
import Derived.Test.YtofjpdgojoppbaaGreatDoorG22
import Derived.Test.YtofjpdgojoppbaaGreatDoorG23
set_option maxRecDepth 100000
set_option maxHeartbeats 16000000
set_option linter.unusedVariables false
set_option linter.unusedSimpArgs false
namespace Go.Proofs.YtofjpdgojoppbaaGreatDoor
section
open Go.RowKit Go.Sort
section
variable {α:Type} [Inhabited α] {enc:α→List Value} {k:Nat}
omit [Inhabited α] in
theorem enc_len (hk:∀ x,(enc x).length=k):∀ l:List α,((l.map enc).flatten).length=l.length*k
 | []=>by simp
 | x::l=>by
  rw[List.map_cons,List.flatten_cons,List.length_append,hk,enc_len hk l,List.length_cons,Nat.add_mul]
  omega
theorem zfS (hk:∀ x,(enc x).length=k) (d:Array α):(flatK enc k d).toList=(d.toList.map enc).flatten:=by
 have hl:=enc_len hk d.toList;refine List.ext_getElem? fun t=>?_;by_cases ht:t<d.size*k
 ·have hk0:0<k:=by
   rcases Nat.eq_zero_or_pos k with h | h
   ·subst h;simp at ht
   ·exact h
  have e1:(flatK enc k d).toList[t]? = some ((enc d[t/k]!)[t%k]!):=by
   have h1:t<(flatK enc k d).size:=by rw[size_flatK];exact ht
   rw[Array.getElem?_toList,Array.getElem?_eq_getElem h1,←getElem!_pos _ t h1,get_flatK _ _ _ _ ht]
  have hq:t/k<d.size:=Nat.div_lt_of_lt_mul (by rw[Nat.mul_comm];exact ht);have hm:t%k<k:=Nat.mod_lt _ hk0;have e2:=zei k (d.toList.map enc) (t/k) (t%k) (enc d[t/k]) (by
   intro y hy;obtain⟨x,_,rfl⟩:=List.mem_map.1 hy;exact hk x) (by simp[hq]) hm
  have e3:t/k*k+t%k=t:=by rw[Nat.mul_comm];exact Nat.div_add_mod t k
  rw[e3] at e2;rw[e1,e2,getElem!_pos d (t/k) hq];have hm':t%k<(enc d[t/k]).length:=by rw[hk];exact hm
  rw[List.getElem?_eq_getElem hm',getElem!_pos (enc d[t/k]) (t%k) hm']
 ·have a1:(flatK enc k d).toList.length≤t:=by rw[Array.length_toList,size_flatK];omega
  have a2:((d.toList.map enc).flatten).length≤t:=by rw[hl,Array.length_toList];omega
  rw[List.getElem?_eq_none a1,List.getElem?_eq_none a2]
theorem zkM (hk:∀ x,(enc x).length=k) {w:World} {g:Nat} {e:TypeId} {cs:Array Value} {d:Array α} (h:Blk w g e cs) (ht:cs.toList.take (d.size*k)=(d.toList.map enc).flatten):HoldsK enc k w g 0 d:=by
 intro j hj;rw[size_flatK] at hj;rw[Nat.zero_add];refine⟨h.cell ?_,h.frozen j⟩;have h1:j<(flatK enc k d).size:=by rw[size_flatK];exact hj
 have e1:(cs.toList.take (d.size*k))[j]? = (flatK enc k d).toList[j]?:=by rw[ht,zfS hk]
 rw[List.getElem?_take,if_pos hj,Array.getElem?_toList,Array.getElem?_toList,Array.getElem?_eq_getElem h1] at e1;rw[e1,getElem!_pos _ j h1];rfl
theorem zfs (w:World) (g m:Nat) (d:Array α) (os:Array Obj) (hg:g<w.heap.size):Keep (fun q=>q=g) w (sortWorldK enc k w g 0 m d os):=by
 refine⟨rfl,rfl,rfl,?_,fun q hq hn=>?_⟩
 ·simp[sortWorldK,grow,putRowK,putRow,mapBlock,Sort.ahead]
 ·have hne:¬ g=q:=fun h=>hn h.symm
  show((w.heap.modify g (onCells (putCells id 0 (flatK enc k d))))++os)[q]? = w.heap[q]?
  rw[Array.getElem?_append_left (by simpa using hq),Array.getElem?_modify,if_neg hne]
theorem zgb (hk:∀ x,(enc x).length=k) {w:World} {g:Nat} {e:TypeId} {cs:Array Value} (h:Blk w g e cs) (m:Nat) (d:Array α) (os:Array Obj) (hs:d.size*k≤cs.size) :
  ∃ cs',Blk (sortWorldK enc k w g 0 m d os) g e cs'∧cs'.size=cs.size∧cs'.toList.take (d.size*k)=(d.toList.map enc).flatten:=by
 refine⟨putCells id 0 (flatK enc k d) cs,?_,by simp[putCells],?_⟩
 ·show((w.heap.modify g (onCells (putCells id 0 (flatK enc k d))))++os)[g]? = _
  have hl:=h.lt;unfold Blk at h;rw[Array.getElem?_append_left (by simpa using hl),Array.getElem?_modify,if_pos rfl,h];rfl
 ·rw[←zfS hk]
  refine List.ext_getElem? fun t=>?_;rw[List.getElem?_take];by_cases ht:t<d.size*k
  ·have h1:t<(flatK enc k d).size:=by rw[size_flatK];exact ht
   have h2:t<cs.size:=Nat.lt_of_lt_of_le ht hs;rw[if_pos ht,Array.getElem?_toList,Array.getElem?_toList,Array.getElem?_eq_getElem h1];unfold putCells;rw[Array.getElem?_mapIdx,Array.getElem?_eq_getElem h2];simp only[Option.map_some,Nat.zero_le,Nat.zero_add,true_and,h1,if_true,Nat.sub_zero,id];rw[getElem!_pos _ t h1]
  ·rw[if_neg ht,List.getElem?_eq_none (by rw[Array.length_toList,size_flatK];omega)]
def Cmps (P:Program) (gf:Nat) (enc:α→List Value) (cf:α→α→Int):Prop:=
 ∀ W x y,Calls P gf #[.agg (enc x).toArray,.agg (enc y).toArray] W fun e w'=>e=.returned (.int .i64 (cf x y)) ∧ ∃ q os',w'=grow (W.drewN q) os'
theorem sort_c {P:Program} {ρ:Go.Shelf.Ren} (L:SlLaysF0.n6 P ρ) (aE:∀ w,(isAgg (ρ.t 24)).run P w=.ok true w) (zE:∀ w,(Go.sizeOf (ρ.t 24)).run P w=.ok k w) (hk:∀ x,(enc x).length=k) (h1:∀ x,∀ v∈enc x,v.oneCell'=true) (cf:α→α→Int) (hO:SWO (ltOf cf)) (gf:Nat)
  (eg:∀ args w,(callFunc gf args).run P w=.ok (.enter gf args) w) (hcmp:Cmps P gf enc cf) {w:World} {B:Nat} {e:TypeId} {v:Value} {l:List α} (h:w.ownsRow B e k v l.length (l.map enc).flatten) (hl:l.length≤1000000) :
  Calls P (ρ.f 6) #[v,.func (.func gf) #[] #[]] w fun en w'=>en=.returned (.tuple #[])∧Keep (fun q=>v.ownBlock=some q) w w' ∧ ∃ l':List α,l'.Perm l∧l'.Pairwise (fun x y=>ltOf cf y x=false)∧w'.ownsRow B e k v l'.length (l'.map enc).flatten:=by
 rcases h.2 with⟨rfl,h0⟩ | ⟨g,cap,cs,rfl,hb,hg,h2,h3,h4,h5⟩
 ·have:l=[]:=List.eq_nil_of_length_eq_zero h0
  subst this;exact(AnyF.slices_SortFunc_none { L with } none 0 _ w).mono fun en w' ⟨he,hw⟩=>⟨he,hw ▸ Keep.refl _ _,[],List.Perm.refl _,List.Pairwise.nil,hw ▸ h⟩
 ·have hB:Blk w g e cs:=hg
  have ht:cs.toList.take (l.toArray.size*k)=(l.toArray.toList.map enc).flatten:=by simpa using h5
  have hH:=zkM hk hB ht;have hsz:l.toArray.size*k≤cs.size:=by
   rw[h4];exact Nat.mul_le_mul_right _ (by simpa using h2)
  have hcon:=AnyQ.slices_SortFunc L k aE zE enc hk h1 cf hO gf #[] g 0 cap l.toArray w eg (fun m os dk _ x y=>hcmp _ x y) hH hB.lt (by simp;omega);refine hcon.mono fun en w' ⟨he,d',n,os,hp,hs,hw⟩=>?_;subst hw;have hsize:d'.size=l.length:=by simpa using hp.1
  obtain⟨cs',hB',hz',ht'⟩:=zgb (enc:=enc) hk hB n d' os (by rw[hp.1];exact hsz);refine⟨he,(zfs w g n d' os hB.lt).mono fun q hq=>by subst hq;rfl,d'.toList,?_,?_,?_⟩
  ·have:=hp.2.2
   rw[Array.toList_extract,Array.toList_extract,List.extract_eq_take_drop,List.extract_eq_take_drop] at this;rw[List.drop_zero,List.drop_zero,List.take_of_length_le (by simp;omega),List.take_of_length_le (by simp)] at this;exact this
  ·refine List.pairwise_iff_getElem.2 fun i j hi hj hij=>?_
   have hi':i<d'.size:=by simpa using hi
   have hj':j<d'.size:=by simpa using hj
   have:=hs i j (Nat.zero_le _) hij (by rw[←hp.1];exact hj');rw[getElem!_pos d' j hj',getElem!_pos d' i hi'] at this;simpa using this
  ·refine⟨enc_len hk _,.inr ⟨g,cap,cs',?_,hb,hB',?_,h3,by rw[hz',h4],?_⟩⟩
   ·rw[show d'.toList.length=l.length by simpa using hsize]
   ·rw[show d'.toList.length=l.length by simpa using hsize];exact h2
   ·rw[show d'.toList.length=d'.size from Array.length_toList];exact ht'
end
end
section
open Go.RowKit Go.Sort
theorem zh5:ltOf zcz=Ver.lt:=by funext a b;exact zf4 a b
theorem swo_ver:SWO (ltOf zcz):=by
 rw[zh5];refine⟨Ver.strict.irrefl,Ver.strict.trans,fun a b c h1 h2=>?_⟩;simp only[Ver.lt,decide_eq_false_iff_not] at *;omega
theorem order_e (a b:Ver) (W:World):Calls Tryz.prog 184 #[a.val,b.val] W (Ret (.int .i64 (zcz a b)) W):=(zjU a b W).mono fun _ _ ⟨he,hx,_⟩=>⟨he,hx⟩
theorem zkh {w:World} {B:Nat} {v:Value} {l:List Ver} (h:w.ownsRow B 51 2 v l.length (l.map Ver.cells).flatten) (hl:l.length≤1000000) :
  Calls Tryz.prog 185 #[v,.func (.func 184) #[] #[]] w fun en w'=>en=.returned (.tuple #[])∧Keep (fun q=>v.ownBlock=some q) w w' ∧ ∃ l':List Ver,l'.Perm l∧l'.Pairwise (fun x y=>ltOf zcz y x=false)∧w'.ownsRow B 51 2 v l'.length (l'.map Ver.cells).flatten:=
 sort_c (P:=Tryz.prog) Tryz.sortVer Tryz.isAgg51 Tryz.sizeOf51 ver_coded.len ver_coded.one zcz swo_ver 184 (fun _ _=>zbR Tryz.func184 (by kernel_rfl) (by kernel_rfl)) (fun W x y=>order_g x y W) h hl
theorem vsort_c (w:World) (v:Value) (l:List Ver) (h:Sl w 2 v (l.map Ver.cells)) (hl:l.length≤1000000):Calls Tryz.prog 180 #[v] w (RetQ (RowAt Ver.cells 2 (setL Ver.lt l)) w):=by
 obtain⟨v1,w1,hrun,hown,hkeep,_,hnil⟩:=zda (P:=Tryz.prog) (ty:=34) zdc (zw w w.heap.size 51 2) (Nat.le_refl _) (zcL Tryz.underlying34 ver_coded h (Ext.refl w)) (by unfold maxLen;omega) (by omega);rw[List.nil_append,Nat.zero_add] at hown;have HE:Hid (Ext w w1):=hkeep.toExt (Ext.refl w) (fun q hq=>by cases hq);have HO:=hid hown;have HB:Hid (∀ q,v1.ownBlock=some q→w.heap.size≤q):=fun q hq=>(zC hown q hq).1;have HN:Hid (l.length=0→v1=.slice none 0 0):=fun h0=>hnil (by omega) rfl;have HL:=hid hl;clear h hown hkeep hnil hl;go_enter Tryz.func180,Tryz.ntmps180;go_wp2_with (first
  | (at_builtin;refine zD rfl (.const (.slice none 0 0)) (.tmp 4) _ _ rfl rfl rfl hrun ?_)
  | (go_at_call 185;refine(zkh HO.out HL.out).mono ?_;rintro e w2 ⟨rfl,k2,l',hp,hs,ho2⟩;have K2:=hid k2;have P2:=hid hp;have S2:=hid hs;have O2:=hid ho2;clear k2 hp hs ho2)
  | (go_at_call 186;refine(zk8 _ _ _ _ (by rw[P2.out.length_eq];exact HL.out) O2.out).mono ?_;rintro e w3 ⟨v3,rfl,k3,ho3,_,hn3⟩;have K3:=hid k3;have O3:=hid ho3;have N3:=hid hn3;clear k3 ho3 hn3))
 go_ret;have e:Lib.compact l'=setL Ver.lt l:=zf3 Ver.strict P2.out (by rw[←zh5];exact S2.out);rw[e] at O3;refine⟨_,rfl,RowAt.of_row ver_coded O3.out fun h0=>N3.out (HN.out ?_),(K3.out.toExt (K2.out.toExt HE.out HB.out) HB.out)⟩;have:setL Ver.lt l=[]:=List.eq_nil_of_length_eq_zero h0;rcases l with _ | ⟨x,l⟩
 ·rfl
 ·have:=(zh2 Ver.strict (x::l) x).2 (by simp)
  simp_all
theorem rput_c (w:World) (v:Value) (l:List Ver) (x:Ver) (h:RowAt Ver.cells 2 l v w) (hl:l.length<1000000):Calls Tryz.prog 132 #[v,x.val] w (RetQ (RowAt Ver.cells 2 (insL Ver.lt x l)) w):=by
 have hnil:=h.2;have HR:=hid h;obtain⟨A,c,rfl,h1,h2,h3⟩:=zz h.1;unfold maxLen at h2;unfold Ver.val;have HB:∀ W (k:Nat) (h:k<l.length),Hid (Calls Tryz.prog 30 #[.agg #[.int .i64 l[k].by_,.int .i64 l[k].n],.agg #[.int .i64 x.by_,.int .i64 x.n]] W (Ret (.bool (l[k].lt x)) W)):=fun W k h=>zeA l[k] x W;have hr:=zfy (lt:=Ver.lt) x l;have hlow:=zfx (lt:=Ver.lt) x l;have hat:=zd7 (lt:=Ver.lt) x l;have HP:Hid (insL Ver.lt x l=if l[rankL Ver.lt x l]? = some x then l else l.take (rankL Ver.lt x l)++x::l.drop (rankL Ver.lt x l)):=rfl;have HN:=hid hnil;clear h hnil;generalize rankL Ver.lt x l=r at hr hlow hat HP
 generalize insL Ver.lt x l=out at HP⊢;go_enter Tryz.func132,Tryz.ntmps132;go_wp2_with fail
 have hE0:=Ext.alloc w (.cells #[.int .i64 x.by_,.int .i64 x.n] 51);have hB0:=Blk.new w 51 #[.int .i64 x.by_,.int .i64 x.n];generalize w.alloc (.cells #[.int .i64 x.by_,.int .i64 x.n] 51)=w0 at hE0 hB0⊢;generalize w.heap.size=g0 at hB0⊢;have x0:=hB0.cell (i:=0) (v:=.int .i64 x.by_) rfl;have x1:=hB0.cell (i:=1) (v:=.int .i64 x.n) rfl;have lg0:=hB0.lt;clear hB0;go_loopw [5] (fun i wr=>∃ k:Nat,k≤r∧i=.int .i64 k∧Ext w0 wr) (fun i _=>r-(intOf i).toNat)
 case atStart=>exact⟨0,by omega,rfl,Ext.refl _⟩
 case round=>
  obtain⟨k,hk,rfl,hE⟩:=hrel;have y0:=hE.cell x0;have y1:=hE.cell x1;have lg:=Nat.lt_of_lt_of_le lg0 hE.size;by_cases hlt:k<r
  ·have hkl:k<l.length:=by omega
   obtain⟨b,o,rfl,lb,hcell⟩:=h3 (by omega);have c0:=(hE0.trans hE).cell (hcell k hkl 0 _ rfl);have c1:=(hE0.trans hE).cell (hcell k hkl 1 _ rfl);rw[Nat.add_zero] at c0;have lbw:=Nat.lt_of_lt_of_le lb (hE0.trans hE).size;have HBk:∀ W,Hid (Calls Tryz.prog 30 #[.agg #[.int .i64 l[k].by_,.int .i64 l[k].n],.agg #[.int .i64 x.by_,.int .i64 x.n]] W (Ret (.bool true) W)):=fun W=>by
    have:=HB W k hkl;rwa [hlow k hkl hlt] at this
   have HE:=hid hE;clear hcell h3 hE HB hlow hat;generalize l[k]=z at c0 c1 HBk;go_wp2_with fail
   refine zd (by kernel_rfl) (by kernel_rfl) (by kernel_rfl) ?_
   repeat (first
    | (refine AWq.val rfl rfl rfl rfl (fun K hK=>?_);go_big_quiet_op;refine hK _ ?_;clear hK K)
    | (refine AWq.skip rfl rfl rfl ?_;simp only[Act.put,zq6,zq7,zq8])
    | (refine AWq.call rfl Tryz.func30 (by kernel_rfl) (by kernel_rfl) rfl rfl rfl ?_;apply Exists.intro;refine And.intro (fun wc hc=>?_) ?_;(· (simp only[zm,zt,↓reduceIte,Nat.reduceEqDiff,zq1,zq2,zq3,zq4,zq5];with_reducible exact(HBk _).out));simp only[Act.put,zq6,zq7,zq8]))
   refine AWq.done rfl rfl rfl (fun w2 z2=>?_);simp only[zo,Act.put,zq6,zq7,zq8];go_wp2_with fail
   go_roundw
   case rel=>exact⟨k+1,by omega,by go_num,HE.out.trans z2⟩
   case measure=>simp[intOf];omega
  ·obtain rfl:k=r:=by omega
   by_cases hkl:k<l.length
   ·obtain⟨b,o,rfl,lb,hcell⟩:=h3 (by omega)
    have c0:=(hE0.trans hE).cell (hcell k hkl 0 _ rfl);have c1:=(hE0.trans hE).cell (hcell k hkl 1 _ rfl);rw[Nat.add_zero] at c0;have HBk:∀ W,Hid (Calls Tryz.prog 30 #[.agg #[.int .i64 l[k].by_,.int .i64 l[k].n],.agg #[.int .i64 x.by_,.int .i64 x.n]] W (Ret (.bool false) W)):=fun W=>by
     have:=HB W k hkl;rwa [hat hkl] at this
    have HE:=hid (hE0.trans hE);have HL:=hid hcell;have HQ:Hid (l[k]? = some l[k]):=List.getElem?_eq_getElem hkl;have lbw:=Nat.lt_of_lt_of_le lb (hE0.trans hE).size;clear hcell h3 hE HB hlow hat hlt;generalize l[k]=z at c0 c1 HBk HQ;go_wp2_with fail
    refine zd (by kernel_rfl) (by kernel_rfl) (by kernel_rfl) ?_
    repeat (first
     | (refine AWq.val rfl rfl rfl rfl (fun K hK=>?_);go_big_quiet_op;refine hK _ ?_;clear hK K)
     | (refine AWq.skip rfl rfl rfl ?_;simp only[Act.put,zq6,zq7,zq8])
     | (refine AWq.call rfl Tryz.func30 (by kernel_rfl) (by kernel_rfl) rfl rfl rfl ?_;apply Exists.intro;refine And.intro (fun wc hc=>?_) ?_;(· (simp only[zm,zt,↓reduceIte,Nat.reduceEqDiff,zq1,zq2,zq3,zq4,zq5];with_reducible exact(HBk _).out));simp only[Act.put,zq6,zq7,zq8]))
    refine AWq.done rfl rfl rfl (fun w2 z2=>?_);simp only[zo,Act.put,zq6,zq7,zq8];have d0:=z2.cell c0;have d1:=z2.cell c1;have e0:=z2.cell y0;have e1:=z2.cell y1;have HE2:=hid (HE.out.trans z2);have lg2:=Nat.lt_of_lt_of_le lg z2.size;have lb2:=Nat.lt_of_lt_of_le lbw z2.size;clear c0 c1 y0 y1 z2 HBk;by_cases hz:z=x
    ·subst hz
     have hs:=zfW z.by_ z.n;go_wp2_with fail
     go_quiet (fail)
     go_wp2_with fail
     go_ret;refine⟨_,rfl,?_,HE2.out.drewN' _⟩;rw[HP.out,if_pos HQ.out];exact HR.out.ext (HE2.out.drewN' _)
    ·have hs:eq2 z.by_ z.n x.by_ x.n=false:=by rw[Bool.eq_false_iff,Ne,zhn];exact hz
     go_wp2_with fail
     go_quiet (fail)
     have HE3:=hid (HE2.out.drewN' nq);have lb3:b<(w2.drewN nq).heap.size:=lb2;obtain⟨va,wa,vb,wb,vc,wc,ra,rb,rc,o2,ex,ea⟩:=zeR (P:=Tryz.prog) zdc (wr:=w2.drewN nq) k (l.length-k) ((l.take k).map Ver.cells).flatten ((l.drop k).map Ver.cells).flatten x.cells (.slice (some ⟨b,o,none⟩) k c) (.slice (if c=k then some ⟨b,o,none⟩ else some ⟨b,o+k*2,none⟩) (l.length-k) (c-k)) (by omega) (by omega) (by omega) rfl (ver_coded.one x)
      (fun W hW=>zfr Tryz.underlying34 ver_coded HL.out k c (by omega) (HE3.out.trans hW)) (fun W hW=>zhH Tryz.underlying34 ver_coded HL.out k c (by omega) h1 (HE3.out.trans hW))
     have HO:=hid o2;have HX:=hid ex;have hck:¬ c=k:=by omega
     have hout:out=l.take k++x::l.drop k:=by rw[HP.out,if_neg (by rw[HQ.out];exact fun e=>hz (Option.some.inj e))]
     have HLen:Hid (out.length=k+1+(l.length-k)):=by unfold Hid;rw[hout];simp;omega
     have HFl:Hid ((out.map Ver.cells).flatten=((l.take k).map Ver.cells).flatten++x.cells++((l.drop k).map Ver.cells).flatten):=by unfold Hid;rw[hout];simp
     rw[if_neg hck] at rc;unfold Ver.cells at rb;have f0:wa.cell? ⟨g0,0,none⟩=some (.int .i64 x.by_):=ea.cell (p:=⟨g0,0,none⟩) e0;have f1:wa.cell? ⟨g0,1,none⟩=some (.int .i64 x.n):=ea.cell (p:=⟨g0,1,none⟩) e1;clear o2 ex ea hout hz;generalize w2.drewN nq=wr2 at *;go_wp2_with (first
      | (at_builtin;refine zD rfl (.tmp 34) (.tmp 37) _ _ rfl rfl rfl ra ?_)
      | (at_builtin;refine zD rfl (.tmp 39) (.tmp 41) _ _ rfl rfl rfl rb ?_)
      | (at_builtin;refine zD rfl (.tmp 43) (.tmp 46) _ _ rfl rfl rfl rc ?_))
     all_goals go_ret
     all_goals exact⟨_,rfl,RowAt.of_row (e:=51) ver_coded (by rw[HLen.out,HFl.out];exact HO.out) (fun h0=>by rw[HLen.out] at h0;omega),HE3.out.trans HX.out⟩
   ·have HE:=hid (hE0.trans hE)
    by_cases h0:l.length=0
    ·have hnil:=HN.out h0
     injection hnil with hA hn hc0
     subst hA hc0;have hl0:l=[]:=List.eq_nil_of_length_eq_zero h0;subst hl0;have hk0:k=0:=by omega
     subst hk0;have hout:out=[x]:=by rw[HP.out];simp
     have HLen:Hid (out.length=0+1+0):=by unfold Hid;rw[hout];rfl
     have HFl:Hid ((out.map Ver.cells).flatten=[]++x.cells++[]):=by unfold Hid;rw[hout];simp
     clear hout h3 hE HB hlow hat hlt HN HP HR;go_wp2_with fail
     refine zd (by kernel_rfl) (by kernel_rfl) (by kernel_rfl) ?_
     repeat (first
      | (refine AWq.val rfl rfl rfl rfl (fun K hK=>?_);go_big_quiet_op;refine hK _ ?_;clear hK K)
      | (refine AWq.skip rfl rfl rfl ?_;simp only[Act.put,zq6,zq7,zq8]))
     refine AWq.done rfl rfl rfl (fun w2 z2=>?_);simp only[zo,Act.put,zq6,zq7,zq8];go_wp2_with fail
     refine zd (by kernel_rfl) (by kernel_rfl) (by kernel_rfl) ?_
     repeat (first
      | (refine AWq.val rfl rfl rfl rfl (fun K hK=>?_);go_big_quiet_op;refine hK _ ?_;clear hK K)
      | (refine AWq.skip rfl rfl rfl ?_;simp only[Act.put,zq6,zq7,zq8]))
     refine AWq.done rfl rfl rfl (fun w3 z3=>?_);simp only[zo,Act.put,zq6,zq7,zq8];have HE3:=hid (HE.out.trans (z2.trans z3));have e0:=(z2.trans z3).cell y0;have e1:=(z2.trans z3).cell y1;clear z2 z3;obtain⟨va,wa,vb,wb,vc,wc,ra,rb,rc,o2,ex,ea⟩:=zeR (P:=Tryz.prog) zdc (wr:=w3) 0 0 [] [] x.cells (.slice none 0 0) (.slice none 0 0) (by omega) (by omega) (by omega) rfl (ver_coded.one x)
      (fun W hW=>Src.ofNil W Tryz.underlying34 0) (fun W hW=>Src.ofNil W Tryz.underlying34 0)
     have HO:=hid o2;have HX:=hid ex;have f0:=ea.cell e0;have f1:=ea.cell e1;unfold Ver.cells at rb;clear o2 ex ea;go_wp2_with (first
      | (at_builtin;refine zD rfl (.tmp 34) (.tmp 37) _ _ rfl rfl rfl ra ?_)
      | (at_builtin;refine zD rfl (.tmp 39) (.tmp 41) _ _ rfl rfl rfl rb ?_)
      | (at_builtin;refine zD rfl (.tmp 43) (.tmp 46) _ _ rfl rfl rfl rc ?_))
     all_goals go_ret
     all_goals exact⟨_,rfl,RowAt.of_row (e:=51) ver_coded (by rw[HLen.out,HFl.out];exact HO.out) (fun h0=>by rw[HLen.out] at h0;omega),HE3.out.trans HX.out⟩
    ·obtain⟨b,o,rfl,lb,hcell⟩:=h3 (by omega)
     have HL:=hid hcell;have hout:out=l.take k++x::l.drop k:=by rw[HP.out,if_neg (by rw[List.getElem?_eq_none (by omega)];simp)]
     have HLen:Hid (out.length=k+1+(l.length-k)):=by unfold Hid;rw[hout];simp;omega
     have HFl:Hid ((out.map Ver.cells).flatten=((l.take k).map Ver.cells).flatten++x.cells++((l.drop k).map Ver.cells).flatten):=by unfold Hid;rw[hout];simp
     clear hcell h3 hE HB hlow hat hlt HP HR hout;go_wp2_with fail
     refine zd (by kernel_rfl) (by kernel_rfl) (by kernel_rfl) ?_
     repeat (first
      | (refine AWq.val rfl rfl rfl rfl (fun K hK=>?_);go_big_quiet_op;refine hK _ ?_;clear hK K)
      | (refine AWq.skip rfl rfl rfl ?_;simp only[Act.put,zq6,zq7,zq8]))
     refine AWq.done rfl rfl rfl (fun w2 z2=>?_);simp only[zo,Act.put,zq6,zq7,zq8];go_wp2_with fail
     refine zd (by kernel_rfl) (by kernel_rfl) (by kernel_rfl) ?_
     repeat (first
      | (refine AWq.val rfl rfl rfl rfl (fun K hK=>?_);go_big_quiet_op;refine hK _ ?_;clear hK K)
      | (refine AWq.skip rfl rfl rfl ?_;simp only[Act.put,zq6,zq7,zq8]))
     refine AWq.done rfl rfl rfl (fun w3 z3=>?_);simp only[zo,Act.put,zq6,zq7,zq8];have HE3:=hid (HE.out.trans (z2.trans z3));have e0:=(z2.trans z3).cell y0;have e1:=(z2.trans z3).cell y1;clear z2 z3;obtain⟨va,wa,vb,wb,vc,wc,ra,rb,rc,o2,ex,ea⟩:=zeR (P:=Tryz.prog) zdc (wr:=w3) k (l.length-k) ((l.take k).map Ver.cells).flatten ((l.drop k).map Ver.cells).flatten x.cells (.slice (some ⟨b,o,none⟩) k c) (.slice (if c=k then some ⟨b,o,none⟩ else some ⟨b,o+k*2,none⟩) (l.length-k) (c-k)) (by omega) (by omega) (by omega) rfl (ver_coded.one x)
      (fun W hW=>zfr Tryz.underlying34 ver_coded HL.out k c (by omega) (HE3.out.trans hW)) (fun W hW=>zhH Tryz.underlying34 ver_coded HL.out k c (by omega) h1 (HE3.out.trans hW))
     have HO:=hid o2;have HX:=hid ex;have f0:=ea.cell e0;have f1:=ea.cell e1;unfold Ver.cells at rb;clear o2 ex ea;go_wp2_with (first
      | (at_builtin;refine zD rfl (.tmp 34) (.tmp 37) _ _ rfl rfl rfl ra ?_)
      | (at_builtin;refine zD rfl (.tmp 39) (.tmp 41) _ _ rfl rfl rfl rb ?_)
      | (at_builtin;refine zD rfl (.tmp 43) (.tmp 46) _ _ rfl rfl rfl rc ?_))
     all_goals go_ret
     all_goals exact⟨_,rfl,RowAt.of_row (e:=51) ver_coded (by rw[HLen.out,HFl.out];exact HO.out) (fun h0=>by rw[HLen.out] at h0;omega),HE3.out.trans HX.out⟩
end
section
open Go.RowKit
theorem rof_c (w:World) (v:Value) (l:List Ver) (h:Sl w 2 v (l.map Ver.cells)) (hl:l.length≤100000):Calls Tryz.prog 77 #[v] w (RetQ (RowAt Ver.cells 2 (setL Ver.lt l)) w):=by
 obtain⟨A,c,rfl,h1,h2,h3⟩:=zz h;unfold maxLen at h2;clear h;go_enter Tryz.func77,Tryz.ntmps77;go_wp2_with fail
 go_loopw [3,4] (fun v i wr=>∃ k:Nat,k≤l.length∧i=.int .i64 k∧Ext w wr∧RowAt Ver.cells 2 (setL Ver.lt (l.take k)) v wr) (fun _ i _=>l.length-(intOf i).toNat)
 case atStart=>exact⟨0,by omega,rfl,Ext.refl _,RowAt.nil _⟩
 case round=>
  obtain⟨k,hk,rfl,hE,hR⟩:=hrel;by_cases hlt:k<l.length
  ·obtain⟨b,o,rfl,lb,hcell⟩:=h3 (by omega)
   have c0:=hE.cell (hcell k hlt 0 _ rfl);have c1:=hE.cell (hcell k hlt 1 _ rfl);rw[Nat.add_zero] at c0;have HP:=hid (rput_c wr u3 (setL Ver.lt (l.take k)) l[k] hR (by have:=zhI Ver.strict (l.take k);rw[List.length_take] at this;omega));have HS:=hid (zkj (lt:=Ver.lt) l k hlt);have HE:=hid hE;clear hE hR hcell h3;generalize l[k]=z at c0 c1 HP HS;unfold Ver.val at HP;go_wp2_with (go_at_call 132;refine(HP.out).mono ?_;rintro e w' ⟨v',rfl,hv',hx⟩;have HV:=hid hv';have HX:=hid hx;clear hv' hx)
   go_roundw
   case rel=>exact⟨k+1,by omega,by go_num,HE.out.trans HX.out,by rw[HS.out];exact HV.out⟩
   case measure=>simp[intOf];omega
  ·obtain rfl:k=l.length:=by omega
   rw[List.take_length] at hR;have HR:=hid hR;have HE:=hid hE;clear hE hR h3;go_wp2_with fail
   go_ret;exact⟨_,rfl,HR.out,HE.out⟩
theorem iof_c (w:World) (v:Value) (l:List Ver) (h:Sl w 2 v (l.map Ver.cells)) (hl:l.length≤1000000):Calls Tryz.prog 175 #[v] w (RetQ (RowAt Ver.cells 2 (setL Ver.lt l)) w):=by
 have HS:=hid (vsort_c w v l h hl);obtain⟨A,c,rfl,_⟩:=zz h;clear h;generalize setL Ver.lt l=r at HS⊢;go_enter Tryz.func175,Tryz.ntmps175;go_wp2_with (go_at_call 180;refine(HS.out).mono ?_;rintro e w' ⟨v',rfl,hv',hx⟩)
 go_ret;exact⟨_,rfl,hv',hx⟩
end
section
open Go.RowKit
def itemsB (l:List Ver):Bool:=l.all zL&&decide (l=setL Ver.lt l)
theorem zgT {f:List Ver} {k:Nat} (h:k<f.length) (h1:(f.take k).all zL=true) (h2:zL f[k]=true):(f.take (k+1)).all zL=true:=by
 rw[List.take_succ_eq_append_getElem h,List.all_append,h1];simp[h2]
theorem ziD {f:List Ver} {k:Nat} (h:k<f.length) (h2:zL f[k]=false):f.all zL=false:=by
 rw[List.all_eq_false];exact⟨f[k],List.getElem_mem h,by simp[h2]⟩
theorem zj1 (w:World) (v:Value) (f:List Ver) (h:Sl w 2 v (f.map Ver.cells)) (hl:f.length≤90000):Calls Tryz.prog 165 #[v] w (Ret (.bool (itemsB f)) w):=by
 have HOf:=fun W (hW:Ext w W)=>hid (iof_c W v f (h.ext hW) (by omega));have HEq:=fun W (hW:Ext w W) u (hu:Sl W 2 u ((setL Ver.lt f).map Ver.cells))=>hid (zfi W v u f (setL Ver.lt f) (h.ext hW) hu);obtain⟨A,c,rfl,h1,h2,h3⟩:=zz h;unfold maxLen at h2;have HCh:=fun W x=>hid (zbP x W);have HR:Hid (∀ b,(f.all zL=b)→itemsB f=(b&&decide (f=setL Ver.lt f))):=fun b hb=>by unfold itemsB;rw[hb]
 have H3:=hid h3;unfold Ver.val at HCh;clear h h3 hl;go_enter Tryz.func165,Tryz.ntmps165;go_wp2_with fail
 go_loopw [7] (fun s7 wr=>∃ k:Nat,k≤f.length∧s7=.int .i64 k∧Hid (Ext w wr)∧Hid ((f.take k).all zL=true)) (fun s7 _=>f.length-(intOf s7).toNat)
 case atStart=>exact⟨0,by omega,rfl,Ext.refl _,rfl⟩
 case round=>
  obtain⟨k,hk,rfl,hE,hA⟩:=hrel;by_cases hlt:k<f.length
  ·have d1:decide ((k:Int)<f.length)=true:=decide_eq_true (by omega)
   have d1':decide (k<f.length)=true:=decide_eq_true hlt;obtain⟨b,o,rfl,lb,hcell⟩:=H3.out (by omega);have c0:=hE.out.cell (hcell k hlt 0 _ rfl);have c1:=hE.out.cell (hcell k hlt 1 _ rfl);rw[Nat.add_zero] at c0;have lbr:=Nat.lt_of_lt_of_le lb hE.out.size;have HC:=fun W=>HCh W f[k];have HT:=hid (fun h=>zgT hlt hA.out h);have HF:=hid (fun h=>ziD hlt h);clear hcell H3 HCh hA HOf HEq lb;generalize f[k]=x at c0 c1 HC HT HF;cases hr:zL x with
   | true=>
    have hT:=hid (HT.out hr)
    (rw[zb8 hr] at HC)
    clear hr HT HF;go_wp2_with fail
    refine((HC _).out).mono ?_;rintro e w2 ⟨rfl,x2⟩;have hE2:=hid ((hE.out.alloc' _).trans x2);clear hE x2 HC;go_wp2_with fail
    go_roundw
    case rel=>exact⟨k+1,by omega,by go_num,hE2,hT⟩
    case measure=>simp[intOf];omega
   | false=>
    have hV:=hid (HR.out false (HF.out hr));rw[Bool.false_and] at hV
    (rw[zcV hr] at HC)
    clear hr HT HF HR;go_wp2_with fail
    refine((HC _).out).mono ?_;rintro e w2 ⟨rfl,x2⟩;have hE2:=hid ((hE.out.alloc' _).trans x2);clear hE x2 HC;go_wp2_with fail
    go_ret;exact⟨by rw[hV.out];rfl,hE2.out⟩
  ·obtain rfl:k=f.length:=by omega
   rw[List.take_length] at hA;have HV:=hid (HR.out true hA.out);rw[Bool.true_and] at HV;clear hA hlt hk H3 HR HCh;go_wp2_with fail
   refine((HOf _ hE.out).out).mono ?_;rintro e w2 ⟨u,rfl,hu,x2⟩;have hu2:=hid hu.1;have hE2:=hid (hE.out.trans x2);clear hu x2 hE;go_wp2_with fail
   refine((HEq _ hE2.out _ hu2.out).out).mono ?_;rintro e w3 ⟨rfl,x3⟩;have hE3:=hid (hE2.out.trans x3);clear x3;go_wp2_with fail
   go_ret;exact⟨by rw[HV.out];rfl,hE3.out⟩
theorem zhQ (w:World) (v:Value) (f:List Ver) (h:Sl w 2 v (f.map Ver.cells)) (hl:f.length≤90000):Calls Tryz.prog 34 #[v] w (Ret (.bool (itemsB f)) w):=by
 have HOf:=fun W (hW:Ext w W)=>hid (rof_c W v f (h.ext hW) (by omega));have HEq:=fun W (hW:Ext w W) u (hu:Sl W 2 u ((setL Ver.lt f).map Ver.cells))=>hid (zjJ W v u f (setL Ver.lt f) (h.ext hW) hu);obtain⟨A,c,rfl,h1,h2,h3⟩:=zz h;unfold maxLen at h2;have HCh:=fun W x=>hid (zcb x W);have HR:Hid (∀ b,(f.all zL=b)→itemsB f=(b&&decide (f=setL Ver.lt f))):=fun b hb=>by unfold itemsB;rw[hb]
 have H3:=hid h3;unfold Ver.val at HCh;clear h h3 hl;go_enter Tryz.func34,Tryz.ntmps34;go_wp2_with fail
 go_loopw [3] (fun s7 wr=>∃ k:Nat,k≤f.length∧s7=.int .i64 k∧Hid (Ext w wr)∧Hid ((f.take k).all zL=true)) (fun s7 _=>f.length-(intOf s7).toNat)
 case atStart=>exact⟨0,by omega,rfl,Ext.refl _,rfl⟩
 case round=>
  obtain⟨k,hk,rfl,hE,hA⟩:=hrel;by_cases hlt:k<f.length
  ·have d1:decide ((k:Int)<f.length)=true:=decide_eq_true (by omega)
   have d1':decide (k<f.length)=true:=decide_eq_true hlt;obtain⟨b,o,rfl,lb,hcell⟩:=H3.out (by omega);have c0:=hE.out.cell (hcell k hlt 0 _ rfl);have c1:=hE.out.cell (hcell k hlt 1 _ rfl);rw[Nat.add_zero] at c0;have lbr:=Nat.lt_of_lt_of_le lb hE.out.size;have HC:=fun W=>HCh W f[k];have HT:=hid (fun h=>zgT hlt hA.out h);have HF:=hid (fun h=>ziD hlt h);clear hcell H3 HCh hA HOf HEq lb;generalize f[k]=x at c0 c1 HC HT HF;have hE':=hE.out;cases hr:zL x with
   | true=>
    have hT:=hid (HT.out hr)
    (rw[hr] at HC)
    clear hr HT HF;go_wp2_with fail
    refine((HC _).out).mono ?_;rintro e w2 ⟨rfl,x2⟩;have hE2:=hid (hE.out.trans x2);clear hE x2 HC;go_wp2_with fail
    go_roundw
    case rel=>exact⟨k+1,by omega,by go_num,hE2,hT⟩
    case measure=>simp[intOf];omega
   | false=>
    have hV:=hid (HR.out false (HF.out hr));rw[Bool.false_and] at hV
    (rw[hr] at HC)
    clear hr HT HF HR;go_wp2_with fail
    refine((HC _).out).mono ?_;rintro e w2 ⟨rfl,x2⟩;have hE2:=hid (hE.out.trans x2);clear hE x2 HC;go_wp2_with fail
    go_ret;exact⟨by rw[hV.out];rfl,hE2.out⟩
  ·obtain rfl:k=f.length:=by omega
   rw[List.take_length] at hA;have HV:=hid (HR.out true hA.out);rw[Bool.true_and] at HV;clear hA hlt hk H3 HR HCh;go_wp2_with fail
   refine((HOf _ hE.out).out).mono ?_;rintro e w2 ⟨u,rfl,hu,x2⟩;have hu2:=hid hu.1;have hE2:=hid (hE.out.trans x2);clear hu x2 hE;go_wp2_with fail
   refine((HEq _ hE2.out _ hu2.out).out).mono ?_;rintro e w3 ⟨rfl,x3⟩;have hE3:=hid (hE2.out.trans x3);clear x3;go_wp2_with fail
   go_ret;exact⟨by rw[HV.out];rfl,hE3.out⟩
end
section
open Go.RowKit
theorem zdJ {α:Type} {p:α→Bool} {f:List α} {k:Nat} (h:k<f.length) (h1:(f.take k).all p=true) (h2:p f[k]=true):(f.take (k+1)).all p=true:=by
 rw[List.take_succ_eq_append_getElem h,List.all_append,h1];simp[h2]
theorem zeu {α:Type} {p:α→Bool} {f:List α} {k:Nat} (h:k<f.length) (h2:p f[k]=false):f.all p=false:=by
 rw[List.all_eq_false];exact⟨f[k],List.getElem_mem h,by simp[h2]⟩
def mayF (x:FragI):Bool:=zM x.f&&(decide (x.v=cleanL x.v)&&itemsB x.n)
def mayN (x:KnownI):Bool:=zL x.i&&decide (x.v=cleanL x.v)
def mayB (k:KnowI):Bool:=k.fs.all mayF&&(k.ks.all mayN&&(decide (k.fs.length≤64)&&decide (k.ks.length≤4096)))
def zav (x:FragI):ByteArray:=zG (zh clB x.f)++zG (zh verB (endsL x.v))++zG (zh verB x.n)
def zZ (x:KnownI):ByteArray:=verB x.i++zG (zh verB (endsL x.v))
def zaf (k:KnowI):ByteArray:=zG (zh zav k.fs)++zG (zh zZ k.ks)
def zjp (x:FragI):Prop:=(∀ c∈x.f,c.pre.size≤90000)∧x.n.length≤90000
attribute [-simp] Tryz.isAgg33 Tryz.sizeOf33
theorem ziU (w:World) (ua va:Value) (a:KnowI) (ha:KnowAt w ua va a) (hs:∀ x∈a.fs,zjp x):Calls Tryz.prog 32 #[.agg #[ua,va]] w (Ret (.bool (mayB a)) w):=by
 obtain⟨⟨cs,hcl,hca,hcs⟩,hak⟩:=ha;obtain⟨A,c1,rfl,h1,h2,h3⟩:=zz hcs;obtain⟨C,c3,rfl,p1,p2,p3⟩:=zz hak;obtain⟨fa,ia⟩:=a;have HR:Hid (mayB ⟨fa,ia⟩=(fa.all mayF&&(ia.all mayN&&(decide (fa.length≤64)&&decide (ia.length≤4096))))):=rfl;generalize mayB ⟨fa,ia⟩=r at HR⊢;dsimp only at *;clear hcs hak;unfold maxLen at h2 p2;have HX:=hid (Ext.alloc w (.cells #[.slice A cs.length c1,.slice C ia.length c3] 29));have HB1:=hid (Blk.new w 29 #[.slice A cs.length c1,.slice C ia.length c3]);have H3:=hid h3;have P3:=hid p3;have HCL:=hid hcl;have HS:=hid hs;clear h3 p3 hcl hs;go_enter Tryz.func32,Tryz.ntmps32;go_wp2_with fail
 generalize w.alloc (.cells #[.slice A cs.length c1,.slice C ia.length c3] 29)=w0 at HB1 HX⊢;go_loopw [3] (fun s3 wr=>∃ k:Nat,k≤cs.length∧s3=.int .i64 k∧Hid (Ext w0 wr)∧Hid ((fa.take k).all mayF=true)) (fun s3 _=>cs.length-(intOf s3).toNat)
 case atStart=>exact⟨0,by omega,rfl,Ext.refl _,rfl⟩
 case round=>
  obtain⟨k,hk,rfl,hE,ht⟩:=hrel;have z0:=(HB1.out.ext hE.out).cell (i:=0) rfl;have z1:=(HB1.out.ext hE.out).cell (i:=1) rfl;have y1:=(HB1.out.ext hE.out).lt;have HXr:=hid (HX.out.trans hE.out);by_cases hk1:k<cs.length
  ·have hka:k<fa.length:=by rw[←HCL.out];exact hk1
   obtain⟨b1,o1,rfl,lb1,g1⟩:=H3.out (by omega);obtain⟨ea,sfa,sna⟩:=hca k cs[k] fa[k] (List.getElem?_eq_getElem hk1) (List.getElem?_eq_getElem hka);have HNe:Hid (mayF fa[k]=false→r=false):=fun h=>by show r=false;rw[HR.out,zeu hka h];rfl
   have HNx:Hid (mayF fa[k]=true→(fa.take (k+1)).all mayF=true):=fun h=>zdJ hka ht.out h;have hsz:=HS.out fa[k] (List.getElem_mem hka);have cf1:=HXr.out.cell (g1 k hk1 0 _ (fragC_f cs[k]));have cn1:=HXr.out.cell (g1 k hk1 66 _ (zeh cs[k]));have HV1:=hid (fun j v (h:(vecV cs[k].v)[j]? = some v)=>(Nat.add_assoc (o1+k*67) 1 j) ▸ HXr.out.cell (g1 k hk1 (1+j) v (zeg cs[k] j v h)));have hz1:=hid (show(vecV cs[k].v).size=65 by rw[zj];exact cs[k].hv);have HRp:=fun W=>hid (zd5 W cs[k].v cs[k].hv);have lr1:=Nat.lt_of_lt_of_le lb1 HXr.out.size;rw[Nat.add_zero] at cf1;rw[ea] at HV1 hz1 HRp;clear g1 lb1 ea hca H3 P3 ht HR HS
   generalize cs[k]=c at cf1 cn1 sfa sna;generalize fa[k]=x at HV1 hz1 HNe HNx sfa sna HRp hsz;obtain⟨⟨f1,f2,f3⟩,_,⟨n1,n2,n3⟩,_⟩:=c;simp only[SlV.val] at cf1 cn1 sfa sna;have HSf:=fun W (hW:Ext w W)=>hid (zfw W _ x.f (sfa.ext hW) hsz.1);have HSn:=fun W (hW:Ext w W)=>hid (zhQ W _ x.n (sna.ext hW) hsz.2);clear sfa sna hsz;unfold mayF at HNe HNx;generalize vecV x.v=X at HV1 hz1 HRp;have HE1:=hid hE.out;clear hE;go_wp2_with fail
   refine((HSf _ HXr.out).out).mono ?_;rintro en w3 ⟨rfl,x3⟩;have HE3:=hid (HE1.out.trans x3);have HX3:=hid (HX.out.trans HE3.out);have HV3:=hid (fun j v h=>x3.cell (HV1.out j v h));have cn3:=x3.cell cn1;have lr3:=Nat.lt_of_lt_of_le lr1 x3.size;clear z0 z1 y1 cf1 cn1 lr1 HV1 HSf HE1 HXr x3;have z0:=(HB1.out.ext HE3.out).cell (i:=0) rfl;have y1:=(HB1.out.ext HE3.out).lt;cases e1:zM x.f with
   | false=>
    have HNe:=hid (HNe.out (by rw[e1];rfl));clear HNx HSn HRp e1;go_wp2_with fail
    go_ret;exact⟨by rw[HNe.out];rfl,HX3.out⟩
   | true=>
    go_wp2_with fail
    simp only[Tryz.sizeOf33,Result.andThen];rw[if_neg (show ¬ (65:Nat)=0 by omega)];dsimp only;rw[Oper.upon_value];go_wp2_with fail
    simp only[Tryz.isAgg33,Tryz.sizeOf33,Result.andThen,↓reduceIte,zv HV3.out 65 hz1.out];rw[Oper.upon_value];go_wp2_with fail
    refine((HRp _).out).mono ?_;rintro en w4 ⟨rfl,x4⟩;have HE4:=hid (HE3.out.trans x4);have HX4:=hid (HX.out.trans HE4.out);have cn4:=x4.cell cn3;have lr4:=Nat.lt_of_lt_of_le lr3 x4.size;clear z0 y1 cn3 lr3 HV3 HE3 HX3 x4 HRp hz1;have z0:=(HB1.out.ext HE4.out).cell (i:=0) rfl;have y1:=(HB1.out.ext HE4.out).lt;cases e2:decide (x.v=cleanL x.v) with
    | false=>
     have HNe:=hid (HNe.out (by rw[e1,e2];rfl));clear HNx HSn e1 e2;go_wp2_with fail
     go_ret;exact⟨by rw[HNe.out];rfl,HX4.out⟩
    | true=>
     go_wp2_with fail
     refine((HSn _ HX4.out).out).mono ?_;rintro en w5 ⟨rfl,x5⟩;have HE5:=hid (HE4.out.trans x5);clear z0 y1 cn4 lr4 HSn;cases e3:itemsB x.n with
     | false=>
      have HNe:=hid (HNe.out (by rw[e1,e2,e3];rfl));clear HNx e1 e2 e3;go_wp2_with fail
      go_ret;exact⟨by rw[HNe.out];rfl,HX.out.trans HE5.out⟩
     | true=>
      have HNx:=hid (HNx.out (by rw[e1,e2,e3];rfl));clear HNe e1 e2 e3;go_wp2_with fail
      go_roundw
      case rel=>exact⟨k+1,by omega,by go_num,HE5.out,HNx.out⟩
      case measure=>simp[intOf];omega
  ·obtain rfl:k=cs.length:=by omega
   have hfa:fa.all mayF=true:=by
    have:=ht.out;rw[HCL.out,List.take_length] at this;exact this
   have HR2:Hid (r=(ia.all mayN&&(decide (cs.length≤64)&&decide (ia.length≤4096)))):=by
    show r=_
    rw[HR.out,hfa,HCL.out];rfl
   clear hfa HR ht hca H3 HS;go_wp2_with fail
   go_loopw [4] (fun s4 wq=>∃ j:Nat,j≤ia.length∧s4=.int .i64 j∧Hid (Ext wr wq)∧Hid ((ia.take j).all mayN=true)) (fun s4 _=>ia.length-(intOf s4).toNat)
   case atStart=>exact⟨0,by omega,rfl,Ext.refl _,rfl⟩
   case round=>
    obtain⟨j,hj,rfl,hQ,ht⟩:=hrel;clear z0 z1 y1;have hEQ:=hid (hE.out.trans hQ.out);have z0:=(HB1.out.ext hEQ.out).cell (i:=0) rfl;have z1:=(HB1.out.ext hEQ.out).cell (i:=1) rfl;have y1:=(HB1.out.ext hEQ.out).lt;have HXq:=hid (HX.out.trans hEQ.out);by_cases hja:j<ia.length
    ·obtain⟨b1,o1,rfl,lb1,g1⟩:=P3.out (by omega)
     have HNe:Hid (mayN ia[j]=false→r=false):=fun h=>by show r=false;rw[HR2.out,zeu hja h];rfl
     have HNx:Hid (mayN ia[j]=true→(ia.take (j+1)).all mayN=true):=fun h=>zdJ hja ht.out h;have ci1:=HXq.out.cell (g1 j hja 0 _ rfl);have ci2:=HXq.out.cell (g1 j hja 1 _ rfl);have HV1:=hid (fun q v (h:(vecV ia[j].v)[q]? = some v)=>(Nat.add_assoc (o1+j*67) 2 q) ▸ HXq.out.cell (g1 j hja (2+q) v (ze8 ia[j] q v h)));have hz1:=hid (show(vecV ia[j].v).size=65 by rw[zj];exact ia[j].hv);have HRp:=fun W=>hid (zd5 W ia[j].v ia[j].hv);have HVr:=fun W=>hid (zcb ia[j].i W);unfold Ver.val at HVr;have lr1:=Nat.lt_of_lt_of_le lb1 HXq.out.size;rw[Nat.add_zero] at ci1;clear g1 lb1 P3 ht HR2
     generalize ia[j]=x at ci1 ci2 HV1 hz1 HNe HNx HRp HVr;unfold mayN at HNe HNx;generalize vecV x.v=X at HV1 hz1 HRp;have hQ':=hid hQ.out;clear hQ;go_wp2_with fail
     refine((HVr _).out).mono ?_;rintro en w3 ⟨rfl,x3⟩;have HE3:=hid (hEQ.out.trans x3);have HX3:=hid (HX.out.trans HE3.out);have HV3:=hid (fun j v h=>x3.cell (HV1.out j v h));have lr3:=Nat.lt_of_lt_of_le lr1 x3.size;have hQ3:=hid (hQ'.out.trans x3);clear z0 z1 y1 ci1 ci2 lr1 HV1 HVr hEQ HXq x3 hQ';have z1:=(HB1.out.ext HE3.out).cell (i:=1) rfl;have y1:=(HB1.out.ext HE3.out).lt;cases e1:zL x.i with
     | false=>
      have HNe:=hid (HNe.out (by rw[e1];rfl));clear HNx HRp e1;go_wp2_with fail
      go_ret;exact⟨by rw[HNe.out];rfl,HX3.out⟩
     | true=>
      go_wp2_with fail
      simp only[Tryz.sizeOf33,Result.andThen];rw[if_neg (show ¬ (65:Nat)=0 by omega)];dsimp only;rw[Oper.upon_value];go_wp2_with fail
      simp only[Tryz.isAgg33,Tryz.sizeOf33,Result.andThen,↓reduceIte,zv HV3.out 65 hz1.out];rw[Oper.upon_value];go_wp2_with fail
      refine((HRp _).out).mono ?_;rintro en w4 ⟨rfl,x4⟩;have HX4:=hid (HX3.out.trans x4);have hQ4:=hid (hQ3.out.trans x4);clear z1 y1 lr3 HV3 HE3 HX3 x4 HRp hz1 hQ3;cases e2:decide (x.v=cleanL x.v) with
      | false=>
       have HNe:=hid (HNe.out (by rw[e1,e2];rfl));clear HNx e1 e2;go_wp2_with fail
       go_ret;exact⟨by rw[HNe.out];rfl,HX4.out⟩
      | true=>
       have HNx:=hid (HNx.out (by rw[e1,e2];rfl));clear HNe e1 e2;go_wp2_with fail
       go_roundw
       case rel=>exact⟨j+1,by omega,by go_num,hQ4.out,HNx.out⟩
       case measure=>simp[intOf];omega
    ·obtain rfl:j=ia.length:=by omega
     have hia:ia.all mayN=true:=by
      have:=ht.out;rw[List.take_length] at this;exact this
     have HR3:Hid (r=(decide (cs.length≤64)&&decide (ia.length≤4096))):=by
      show r=_
      rw[HR2.out,hia];rfl
     clear hia HR2 ht P3;by_cases hA:cs.length≤64
     ·have t1:decide ((cs.length:Int)≤64)=true:=decide_eq_true (by omega)
      have t1':decide (cs.length≤64)=true:=decide_eq_true hA;rw[t1',Bool.true_and] at HR3;go_wp2_with fail
      go_ret;exact⟨by rw[HR3.out];simp;omega,HXq.out⟩
     ·have t1:decide ((cs.length:Int)≤64)=false:=decide_eq_false (by omega)
      have t1':decide (cs.length≤64)=false:=decide_eq_false hA;rw[t1',Bool.false_and] at HR3;go_wp2_with fail
      go_ret;exact⟨by rw[HR3.out];rfl,HXq.out⟩
end
section
open Go.RowKit
theorem zcs {v:Ver} (h:za0 v):zaX v:=by
 obtain⟨h1,h2,h3,h4⟩:=h;unfold zaX in64;omega
theorem zgx {f:List Ver} (h:itemsB f=true) (hs:∀ c∈f,zaX c):∀ c∈f,za0 c:=by
 intro c hc;unfold itemsB at h;simp only[Bool.and_eq_true,decide_eq_true_eq,List.all_eq_true] at h;have h1:=h.1 c hc;have h2:=hs c hc;unfold zL at h1;unfold zaX in64 at h2;rw[decide_eq_true_eq] at h1;unfold za0;omega
theorem sameI_c (w:World) (v:Value) (s r:ByteArray) (e:Int) (HP:∀ W,Ext w W→Hid (Calls Tryz.prog 131 #[v] W (Ret (.tuple #[.string r,.int .i64 e]) W))):Calls Tryz.prog 130 #[v,.string s,.func (.func 131) #[] #[]] w (Ret (.tuple #[if e=0∧r=s then v else .slice none 0 0,.int .i64 (if e=0∧r=s then 0 else 6)]) w):=by
 have key:∀ (y:Value) (z:Int),(e=0∧r=s∧v=y∧z=0∨(e != 0)=true∧.slice none 0 0=y∧z=6∨e=0∧(r.toList==s.toList)=false∧.slice none 0 0=y∧z=6)→Calls Tryz.prog 130 #[v,.string s,.func (.func 131) #[] #[]] w (Ret (.tuple #[y,.int .i64 z]) w):=by
  rintro y z (⟨rfl,rfl,rfl,rfl⟩ | ⟨d0,rfl,rfl⟩ | ⟨rfl,d1,rfl,rfl⟩)
  ·have d0:(r.toList==r.toList)=true:=by simp
   go_enter Tryz.func130,Tryz.ntmps130;go_wp2_with fail
   refine((HP _ (Ext.refl _)).out).mono ?_;rintro en w1 ⟨rfl,x1⟩;have HE1:=hid x1;clear x1 HP;go_wp2_with fail
   go_ret2;exact⟨rfl,HE1.out⟩
  ·go_enter Tryz.func130,Tryz.ntmps130
   go_wp2_with fail
   refine((HP _ (Ext.refl _)).out).mono ?_;rintro en w1 ⟨rfl,x1⟩;have HE1:=hid x1;clear x1 HP;go_wp2_with fail
   go_ret2;exact⟨rfl,HE1.out⟩
  ·go_enter Tryz.func130,Tryz.ntmps130
   go_wp2_with fail
   refine((HP _ (Ext.refl _)).out).mono ?_;rintro en w1 ⟨rfl,x1⟩;have HE1:=hid x1;clear x1 HP;go_wp2_with fail
   go_ret2;exact⟨rfl,HE1.out⟩
 by_cases h0:e=0
 ·by_cases h1:r=s
  ·rw[if_pos ⟨h0,h1⟩,if_pos ⟨h0,h1⟩]
   exact key _ _ (.inl ⟨h0,h1,rfl,rfl⟩)
  ·rw[if_neg (fun h=>h1 h.2),if_neg (fun h=>h1 h.2)]
   exact key _ _ (.inr (.inr ⟨h0,by rw[zay];simp[h1],rfl,rfl⟩))
 ·rw[if_neg (fun h=>h0 h.1),if_neg (fun h=>h0 h.1)]
  exact key _ _ (.inr (.inl ⟨by simp[h0],rfl,rfl⟩))
end
section
open Go.RowKit
def putX (b:Bool) (s:ByteArray):ByteArray:=if b=true then capB s else⟨#[]⟩
def errX (b:Bool) (s:ByteArray):Int:=if b=true then(if s.size≤65536 then 0 else 4) else 2
theorem zaB {b:Bool} {s:ByteArray}:errX b s=0↔b=true∧s.size≤65536:=by
 unfold errX;cases b with
 | false=>simp
 | true=>
  by_cases h:s.size≤65536
  ·rw[if_pos rfl,if_pos h];simp[h]
  ·rw[if_pos rfl,if_neg h];simp[h]
theorem zd9 {b:Bool} {s:ByteArray} (h:errX b s=0):putX b s=s:=by
 obtain⟨h1,h2⟩:=zaB.1 h;unfold putX capB;rw[if_pos h1,if_pos h2]
theorem gotX {b:Bool} {s t:ByteArray} (ht:t.size≤65536):(errX b s=0∧putX b s=t)↔(b=true∧s=t):=by
 constructor
 ·rintro⟨h1,h2⟩
  rw[zd9 h1] at h2;exact⟨(zaB.1 h1).1,h2⟩
 ·rintro⟨h1,rfl⟩
  have h0:=zaB.2 ⟨h1,ht⟩;exact⟨h0,zd9 h0⟩
theorem zek {s:ByteArray} (hs:s.size≠0):(if true=true∧(capB s).size≠0 then capB s else⟨#[]⟩)=putX true s∧(if true=true then(if(capB s).size≠0 then(0:Int) else 4) else 2)=errX true s:=by
 unfold putX errX capB;by_cases h:s.size≤65536
 ·rw[if_pos h,if_pos h,if_pos ⟨rfl,hs⟩,if_pos rfl,if_pos rfl,if_pos rfl,if_pos hs]
  exact⟨rfl,rfl⟩
 ·rw[if_neg h,if_neg h]
  exact⟨rfl,rfl⟩
theorem zg8 (w:World) (v:Value) (f:List Ver) (h:Sl w 2 v (f.map Ver.cells)) (hl:f.length≤90000) (hs:∀ c∈f,zaX c):Calls Tryz.prog 131 #[v] w (Ret (.tuple #[.string (putX (itemsB f) (zh verB f)),.int .i64 (errX (itemsB f) (zh verB f))]) w):=by
 have HC:=hid (zj1 w v f h (by omega));have HF:=fun W s b=>hid (zhl W s b);cases hb:itemsB f with
 | false=>
  rw[hb] at HC;rw[show putX false (zh verB f)=⟨#[]⟩ from rfl,show errX false (zh verB f)=2 from rfl];obtain⟨A,c,rfl,_⟩:=zz h;clear h hs hb HF;go_enter Tryz.func131,Tryz.ntmps131;go_wp2_with fail
  refine(HC.out).mono ?_;rintro e w1 ⟨rfl,x1⟩;have X1:=hid x1;clear x1;go_wp2_with fail
  go_ret2;exact⟨rfl,X1.out⟩
 | true=>
  have hok:=zgx hb hs;have HL:=fun W (hW:Ext w W)=>hid (zl9 W v f verB (h.ext hW) (by omega) (fun x hx W' _=>by
   have:=one_c W' x (hok x hx);rw[show capB (verB x)=verB x from if_pos (by have:=zbe (hok x hx);omega)];exact this) (fun x hx=>zhA (hok x hx)))
  have hpos:=zbs verB f;rw[hb] at HC;generalize zh verB f=s at HL hpos⊢;have HFs:=fun W=>HF W (capB s) true;rw[(zek hpos).1,(zek hpos).2] at HFs;obtain⟨A,c,rfl,_⟩:=zz h;clear h hs hb HF hok hpos;generalize capB s=r at HL HFs;generalize putX true s=r2 at HFs⊢;generalize errX true s=z2 at HFs⊢;go_enter Tryz.func131,Tryz.ntmps131;go_wp2_with fail
  refine(HC.out).mono ?_;rintro e w1 ⟨rfl,x1⟩;have X1:=hid x1;clear x1;go_wp2_with fail
  refine((HL _ X1.out).out).mono ?_;rintro e w2 ⟨rfl,x2⟩;have X2:=hid (X1.out.trans x2);clear x2;go_wp2_with fail
  refine((HFs _).out).mono ?_;rintro e w3 ⟨rfl,x3⟩;have X3:=hid (X2.out.trans x3);clear x3;go_wp2_with fail
  go_ret2;exact⟨rfl,X3.out⟩
theorem getIx_c (w:World) (s:ByteArray) (hs:s.size≤65536):Calls Tryz.prog 73 #[.string s] w (fun en w'=>∃ (v:Value) (l:List Ver) (z:Int),en=.returned (.tuple #[v,.int .i64 z])∧Ext w w'∧((z=0∧itemsB l=true∧zh verB l=s∧RowAt Ver.cells 2 l v w'∧(∀ c∈l,za0 c)∧l.length≤s.size∧w'.ownsRow w.heap.size 51 2 v l.length (l.map Ver.cells).flatten)∨(z=6∧v=.slice none 0 0))∧(∀ f:List Ver,(∀ c∈f,zaX c)→f.length≤90000→itemsB f=true→s=zh verB f→z=0∧l=f)):=by
 have HP:=fun W=>hid (zhU W s (by omega) verB za0 (fun W' t ht _=>(zlH W' t (by omega)).mono fun en w' ⟨z1,z2,e,h1,h2,h3,h4,h5⟩=>⟨⟨z1,z2⟩,e,h1,⟨Int.natCast_nonneg _,by show(z1:Int)≤_;omega,Int.natCast_nonneg _,by show(z2:Int)≤_;omega⟩,h4,fun x0 a b=>by
  obtain⟨c,d⟩:=h5 x0 a b;exact⟨c.symm,d⟩⟩))
 have HPF:=fun W v l h h1 h2=>hid (zg8 W v l h h1 h2);go_enter Tryz.func73,Tryz.ntmps73;go_wp2_with fail
 refine((HP _).out).mono ?_;rintro en w1 ⟨v,b,l,rfl,hrow,hl1,hg,x1,hb,hty⟩;have HLl:=hid hl1;have HRow:=hid hrow;have HTy:=hid hty;have X1:=hid x1;have HG:=hid hg;have HB:=hid hb;have HS:=hid (sameI_c w1 v s _ _ (fun W hW=>HPF W v l (hrow.1.ext hW) (by omega) (fun c hc=>zcs (hg c hc))));simp only[gotX hs] at HS;have HSs:=hid hs;clear hrow x1 hg hb HP HPF hs hl1 hty;go_wp2_with fail
 refine(HS.out).mono ?_;rintro en w2 ⟨rfl,x2⟩;have HRow2:=hid (HRow.out.ext x2);have HTy2:=hid (zF HTy.out x2);have X2:=hid (X1.out.trans x2);clear x2 X1 HRow HS;have HD:Hid (∀ f:List Ver,(∀ c∈f,zaX c)→f.length≤90000→itemsB f=true→s=zh verB f→(itemsB l=true∧zh verB l=s)∧l=f):=fun f a8 a9 a0 a1=>by
  have hok:=zgx a0 a8;obtain rfl:=HB.out f hok (by omega) a1;exact⟨⟨a0,a1.symm⟩,rfl⟩
 by_cases hc:itemsB l=true∧zh verB l=s
 ·rw[if_pos hc,if_pos hc]
  have HC:=hid hc.1;have HE:=hid hc.2;clear hc HB;go_wp2_with fail
  go_ret2;exact⟨v,l,0,rfl,X2.out,.inl ⟨rfl,HC.out,HE.out,HRow2.out,HG.out,HLl.out,HTy2.out⟩,fun f a8 a9 a b=>⟨rfl,(HD.out f a8 a9 a b).2⟩⟩
 ·rw[if_neg hc,if_neg hc]
  have HN:=hid hc;clear hc HB;go_wp2_with fail
  go_ret2;exact⟨_,l,6,rfl,X2.out,.inr ⟨rfl,rfl⟩,fun f a8 a9 a b=>absurd (HD.out f a8 a9 a b).1 HN.out⟩
end
section
open Go.RowKit
def zaI (ls:List (List FldI)):List FldI:=if ls.all (fun l=>!l.isEmpty) then ls.flatten else []
theorem zmG {α:Type} {p:α→Bool} {l:List α} {k:Nat} (h:k<l.length):(l.take (k+1)).all p=((l.take k).all p&&p l[k]):=by
 rw[List.take_succ_eq_append_getElem h,List.all_append];simp
theorem zmF {α:Type} {p:α→Bool} {l:List α} {k:Nat} (h:k<l.length) (hp:p l[k]=false):l.all p=false:=by
 rw[List.all_eq_false];exact⟨l[k],List.getElem_mem h,by simp[hp]⟩
theorem emp_len {α:Type} {l:List α}:(!l.isEmpty)=false↔l.length=0:=by cases l <;> simp
theorem whole_c (w : World) (v : Value) (rows : List (SlV × List FldI)) (h : Sl w 1 v (rows.map (fun r : SlV × List FldI => [r.1.val]))) (hr : ∀ r ∈ rows, Sl w 3 r.1.val (r.2.map FldI.cells)) (hl : ∀ k, ((rows.take k).map (·.2)).flatten.length ≤ 100000) (hl2 : ∀ r ∈ rows, r.2.length ≤ 100000) : Calls Tryz.prog 103 #[v] w (RetQ (RowAt FldI.cells 3 (zaI (rows.map (·.2)))) w) := by
  obtain ⟨A, c, rfl, h1, h2, h3⟩ := zz (code := fun r : SlV × List FldI => [r.1.val]) h
  unfold maxLen at h2
  have H3 := hid h3
  have HR := hid hr
  have HL := hid hl
  have HL2 := hid hl2
  clear h h3 hr hl hl2
  go_enter Tryz.func103, Tryz.ntmps103
  go_wp2_with fail
  go_loopw [3, 8] (fun ou iv wr => ∃ (k : Nat) (ov : Value), ov = ou ∧ k ≤ rows.length ∧ iv = .int .i64 k ∧ Hid (Ext w wr) ∧ Hid (OwnF ((rows.take k).map (·.2)).flatten w.heap.size ov wr) ∧ Hid ((k = 0 → ov = .slice none 0 0) ∧ (0 < k → 0 < ((rows.take k).map (·.2)).flatten.length) ∧ ((rows.take k).map (·.2)).all (fun l => !l.isEmpty) = true)) (fun _ iv _ => rows.length - (intOf iv).toNat)
  case atStart => exact ⟨0, _, rfl, by omega, rfl, Ext.refl _, zw _ _ _ _, fun _ => rfl, fun h => by omega, rfl⟩
  case round =>
    obtain ⟨k, ov, rfl, hk, rfl, hE, hO, hP⟩ := hrel
    by_cases hlt : k < rows.length
    · obtain ⟨b, o, rfl, lb, hcell⟩ := H3.out (by omega)
      have c0 := hE.out.cell (hcell k hlt 0 _ rfl)
      rw [Nat.mul_one, Nat.add_zero] at c0
      have lbr := Nat.lt_of_lt_of_le lb hE.out.size
      have hrow := (HR.out _ (List.getElem_mem hlt)).ext hE.out
      have hml := HL2.out _ (List.getElem_mem hlt)
      have hal := HL.out k
      have HM : Hid (((rows.take (k + 1)).map (·.2)).flatten = ((rows.take k).map (·.2)).flatten ++ rows[k].2) := by
        unfold Hid
        rw [List.take_succ_eq_append_getElem hlt, List.map_append, List.flatten_append]
        simp
      have HA : Hid (((rows.take (k + 1)).map (·.2)).all (fun l => !l.isEmpty) = (((rows.take k).map (·.2)).all (fun l => !l.isEmpty) && !rows[k].2.isEmpty)) := by
        unfold Hid
        rw [List.take_succ_eq_append_getElem hlt, List.map_append, List.all_append]
        simp
      have HN : Hid ((!rows[k].2.isEmpty) = false → zaI (rows.map (·.2)) = []) := fun h => by
        unfold zaI
        rw [if_neg]
        rw [zmF (k := k) (by rw [List.length_map]; exact hlt) (by rw [List.getElem_map]; exact h)]
        simp
      clear hcell H3 HR HL HL2
      generalize ((rows.take k).map (·.2)).flatten = acc at hO hP HM hal
      generalize ((rows.take k).map (·.2)).all (fun l => !l.isEmpty) = ta at hP HA
      generalize rows[k] = r at c0 hrow hml HM HA HN
      obtain ⟨⟨a1, a2, a3⟩, fl⟩ := r
      dsimp only [SlV.val] at c0 hrow
      dsimp only at hml HM HA HN
      obtain ⟨A1, c1, e1, _⟩ := zz hrow
      injection e1 with e1 e2 e3
      subst e1 e2 e3
      have HRow := hid hrow
      clear hrow
      cases hz : ((fl.length : Int) == 0) with
      | true =>
        have h0 : fl.length = 0 := by have : (fl.length : Int) = 0 := by simpa using hz
                                      omega
        have HN2 := hid (HN.out (emp_len.2 h0))
        clear HN HM HA hP hO h0 HRow
        go_wp2_with fail
        go_ret
        exact ⟨_, rfl, by rw [HN2.out]; exact RowAt.nil _, hE.out⟩
      | false =>
        have h0 : fl.length ≠ 0 := by intro h; rw [h] at hz; simp at hz
        have hne : (!fl.isEmpty) = true := by cases fl <;> simp at h0 ⊢
        obtain ⟨v', w6, hr6, ho6, hk6⟩ := hO.out.app hE.out.size HRow.out hal hml
        have HO6 := hid ho6
        have HE6 := hid (hk6.toExt hE.out (fun q hq => (zC hO.out q hq).1))
        clear ho6 hk6 hO HN HRow
        go_wp2_with (at_builtin; refine zD rfl (.tmp 15) (.tmp 16) _ _ rfl rfl rfl hr6 ?_)
        go_roundw
        case rel => exact ⟨k + 1, _, rfl, by omega, by go_num, HE6.out, by rw [HM.out]; exact HO6.out, fun h => by omega, fun _ => by rw [HM.out, List.length_append]; omega, by rw [HA.out, hne, hP.out.2.2]; rfl⟩
        case measure => simp [intOf]; omega
    · obtain rfl : k = rows.length := by omega
      rw [List.take_length] at hO hP
      have HW : Hid (zaI (rows.map (·.2)) = (rows.map (·.2)).flatten) := if_pos hP.out.2.2
      have HZ : Hid ((rows.map (·.2)).flatten.length = 0 → ov = .slice none 0 0) := fun h => by
        by_cases h0 : rows.length = 0
        · exact hP.out.1 h0
        · have := hP.out.2.1 (by omega); omega
      clear H3 HR HL HL2 hP
      go_wp2_with fail
      go_ret
      exact ⟨_, rfl, by rw [HW.out]; exact RowAt.of_row fld_coded hO.out HZ.out, hE.out⟩
theorem zfk (a b:Ver) (w:World):Calls Tryz.prog 177 #[a.val,b.val] w (Ret (.bool (a.lt b)) w):=by
 have H:∀ W,Hid (Calls Tryz.prog 184 #[.agg #[.int .i64 a.by_,.int .i64 a.n],.agg #[.int .i64 b.by_,.int .i64 b.n]] W (Ret (.int .i64 (zcz a b)) W)):=fun W=>order_e a b W;have HL:=hid (zf4 a b);unfold Ver.val;generalize zcz a b=z at H HL;go_enter Tryz.func177,Tryz.ntmps177;go_wp2_with (go_at_call 184;refine(H _).out.mono ?_;rintro e w' ⟨rfl,hx⟩)
 go_ret;exact⟨by rw[HL.out];rfl,(((Ext.refl _).alloc' _).alloc' _).trans hx⟩
def zdo (l:List PairI):List FldI:=fN l.length::(l.map bothF).flatten
def zcE (l:List EntI):List FldI:=if l.all zP then fN l.length::(l.map entF).flatten else []
theorem zet (p:PairI):(bothF p).length≤5:=by show 4≤5;omega
theorem zfa (e:EntI):(entF e).length≤5:=by
 unfold entF
 split
 ·split
  ·show 2≤5;omega
  ·split
   ·show 2≤5;omega
   ·show 5≤5;omega
 ·exact Nat.zero_le _
theorem zc7 {α:Type} (f:α→List FldI) (hf:∀ x,(f x).length≤5):∀ l:List α,((l.map f).flatten).length≤5*l.length
 | []=>by simp
 | x::l=>by
  have:=zc7 f hf l;have:=hf x;rw[List.map_cons,List.flatten_cons,List.length_append,List.length_cons];omega
theorem listP_c (w:World) (v:Value) (l:List PairI) (h:Sl w 4 v (l.map PairI.cells)) (hl:l.length≤1000):Calls Tryz.prog 178 #[v,.func (.func 96) #[] #[]] w (RetQ (RowAt FldI.cells 3 (zdo l)) w):=by
 obtain⟨A,c,rfl,h1,h2,h3⟩:=zz h;unfold maxLen at h2;have HN:=fun W n=>hid (fN_c W n);have HOne:=fun W (hW:Ext w W) (x:PairI)=>hid (zmB W x);have H3:=hid h3;clear h h3;unfold zdo;go_enter Tryz.func178,Tryz.ntmps178;go_wp2_with fail
 refine((HN _ _).out).mono ?_;rintro en w1 ⟨rfl,x1⟩;have HE1:=hid x1;clear x1;have HF0:Hid (OwnF [fN l.length] w.heap.size (.slice (some ⟨w1.heap.size,0,none⟩) 1 1) (w1.alloc (.cells #[.int .i64 l.length,.string ⟨#[]⟩,.bool false] 140))):=zaK HE1.out.size 140 3 1 #[.int .i64 l.length,.string ⟨#[]⟩,.bool false] (by unfold maxLen;omega) rfl;have HE2:=hid (HE1.out.alloc' (.cells #[.int .i64 l.length,.string ⟨#[]⟩,.bool false] 140));go_wp2_with fail
 generalize w1.alloc (.cells #[.int .i64 l.length,.string ⟨#[]⟩,.bool false] 140)=w2 at HF0 HE2⊢;go_loopw [5,15] (fun s5 s15 wr=>∃ (k:Nat) (ov:Value),ov=s5∧k≤l.length∧s15=.int .i64 k∧Hid (Ext w wr)∧Hid (OwnF (fN l.length::((l.take k).map bothF).flatten) w.heap.size ov wr)) (fun _ s15 _=>l.length-(intOf s15).toNat)
 case atStart=>exact⟨0,_,rfl,by omega,rfl,HE2,HF0⟩
 case round=>
  obtain⟨k,s5,rfl,hk,rfl,hE,hO⟩:=hrel;clear HF0 HE2 HE1 HN;by_cases hlt:k<l.length
  ·have d1:decide ((k:Int)<l.length)=true:=decide_eq_true (by omega)
   have d1':decide (k<l.length)=true:=decide_eq_true hlt;obtain⟨b,o,rfl,lb,hcell⟩:=H3.out (by omega);have lbr:=Nat.lt_of_lt_of_le lb hE.out.size;have HM:Hid (((l.take (k+1)).map bothF).flatten=((l.take k).map bothF).flatten++bothF l[k]):=by
    unfold Hid;rw[List.take_succ_eq_append_getElem hlt,List.map_append,List.flatten_append];simp
   have hlen:=zc7 bothF zet (l.take k);have htk:(l.take k).length≤1000:=by rw[List.length_take];omega
   have hen:=zet l[k];have HC:=fun W (hW:Ext wr W)=>HOne W (hE.out.trans hW) l[k];have c0:=hE.out.cell (hcell k hlt 0 _ rfl);have c1:=hE.out.cell (hcell k hlt 1 _ rfl);have c2:=hE.out.cell (hcell k hlt 2 _ rfl);have c3:=hE.out.cell (hcell k hlt 3 _ rfl);rw[Nat.add_zero] at c0;clear hcell H3 HOne lb;generalize hacc1:((l.take (k+1)).map bothF).flatten=acc1 at HM;have HA1:=hid hacc1;clear hacc1;generalize hacc:((l.take k).map bothF).flatten=acc at hO HM hlen;clear hacc;generalize l[k]=x at HM HC hen c0 c1 c2 c3;unfold PairI.val at HC;go_wp2_with fail
   have HE2:=hid (Ext.alloc wr (.cells #[.int .i64 x.a.by_,.int .i64 x.a.n,.int .i64 x.b.by_,.int .i64 x.b.n] 59));generalize wr.alloc (.cells #[.int .i64 x.a.by_,.int .i64 x.a.n,.int .i64 x.b.by_,.int .i64 x.b.n] 59)=w2 at HE2⊢;refine((HC _ HE2.out).out).mono ?_;rintro en w3 ⟨u,rfl,hu,x3⟩;have HE3:=hid (hE.out.trans (HE2.out.trans x3));have hO3:=hid (hO.out.ext (HE2.out.trans x3));have hrow:=hu.sl;obtain⟨A4,c4,rfl,_⟩:=zz hrow;obtain⟨v',w6,hr6,ho6,hk6⟩:=hO3.out.app HE3.out.size hrow (by rw[List.length_cons];omega) (by omega);have HO6:Hid (OwnF (fN l.length::acc1) w.heap.size v' w6):=by
    unfold Hid;rw[HM.out];exact ho6
   have HE6:=hid (hk6.toExt HE3.out (fun q hq=>(zC hO3.out q hq).1));have d4:(((bothF x).length:Int)==0)=false:=rfl;clear ho6 hk6 hO3 hrow hu x3 HE2 hE hO HC;go_wp2_with (at_builtin;refine zD rfl (.tmp 25) (.tmp 26) _ _ rfl rfl rfl hr6 ?_)
   go_roundw
   case rel=>exact⟨k+1,_,rfl,by omega,by go_num,HE6,by rw[HA1.out];exact HO6⟩
   case measure=>simp[intOf];omega
  ·obtain rfl:k=l.length:=by omega
   rw[List.take_length] at hO;have d1:decide ((l.length:Int)<l.length)=false:=decide_eq_false (by omega);have d1':decide (l.length<l.length)=false:=decide_eq_false (by omega);clear H3 HOne;go_wp2_with fail
   go_ret;exact⟨_,rfl,RowAt.of_row fld_coded hO.out (fun h=>by simp at h),hE.out⟩
attribute [-simp] Tryz.isAgg61 Tryz.sizeOf61
theorem listE_c (w:World) (v:Value) (l:List EntI) (m:Int) (hm:w.cell? ⟨0,0,none⟩=some (.int .i64 m)) (hok:∀ e∈l,EntOk e) (h:Sl w 21 v (l.map EntI.cells)) (hl:l.length≤1000):Calls Tryz.prog 172 #[v,.func (.func 52) #[] #[]] w (RetQ (RowAt FldI.cells 3 (zcE l)) w):=by
 obtain⟨A,c,rfl,h1,h2,h3⟩:=zz h;unfold maxLen at h2;have HN:=fun W n=>hid (fN_c W n);have HOne:=fun W (hW:Ext w W) (x:EntI) (hx:x∈l)=>hid (entry_c W x m (hW.cell hm) (hok x hx));have HOk:=hid hok;have H3:=hid h3;clear h h3 hm hok;obtain⟨Z,hZ⟩:∃ Z:Array Value,entZ=Z:=⟨_,rfl⟩
 have hZs:Z.size=21:=by rw[←hZ];rfl
 have HZ:=hid hZs;unfold entZ at hZ;clear hZs;have HRes:Hid (l.all zP=true→zcE l=fN l.length::(l.map entF).flatten):=fun h=>if_pos h;have HResN:Hid (l.all zP=false→zcE l=[]):=fun h=>if_neg (by rw[h];decide);generalize zcE l=R at HRes HResN⊢;go_enter Tryz.func172,Tryz.ntmps172;go_wp2_with fail
 refine((HN _ _).out).mono ?_;rintro en w1 ⟨rfl,x1⟩;have HE1:=hid x1;clear x1;have HF0:Hid (OwnF [fN l.length] w.heap.size (.slice (some ⟨w1.heap.size,0,none⟩) 1 1) (w1.alloc (.cells #[.int .i64 l.length,.string ⟨#[]⟩,.bool false] 140))):=zaK HE1.out.size 140 3 1 #[.int .i64 l.length,.string ⟨#[]⟩,.bool false] (by unfold maxLen;omega) rfl;have HE2:=hid (HE1.out.alloc' (.cells #[.int .i64 l.length,.string ⟨#[]⟩,.bool false] 140));go_wp2_with fail
 generalize w1.alloc (.cells #[.int .i64 l.length,.string ⟨#[]⟩,.bool false] 140)=w2 at HF0 HE2⊢;go_loopw [5,15] (fun s5 s15 wr=>∃ (k:Nat) (ov:Value),ov=s5∧k≤l.length∧s15=.int .i64 k∧Hid (Ext w wr)∧Hid ((l.take k).all zP=true)∧Hid (OwnF (fN l.length::((l.take k).map entF).flatten) w.heap.size ov wr)) (fun _ s15 _=>l.length-(intOf s15).toNat)
 case atStart=>exact⟨0,_,rfl,by omega,rfl,HE2,rfl,HF0⟩
 case round=>
  obtain⟨k,s5,rfl,hk,rfl,hE,hG,hO⟩:=hrel;clear HF0 HE2 HE1 HN;by_cases hlt:k<l.length
  ·have d1:decide ((k:Int)<l.length)=true:=decide_eq_true (by omega)
   have d1':decide (k<l.length)=true:=decide_eq_true hlt;obtain⟨b,o,rfl,lb,hcell⟩:=H3.out (by omega);have lbr:=Nat.lt_of_lt_of_le lb hE.out.size;have HM:Hid (((l.take (k+1)).map entF).flatten=((l.take k).map entF).flatten++entF l[k]):=by
    unfold Hid;rw[List.take_succ_eq_append_getElem hlt,List.map_append,List.flatten_append];simp
   have hlen:=zc7 entF zfa (l.take k);have htk:(l.take k).length≤1000:=by rw[List.length_take];omega
   have hen:=zfa l[k];have HC:=fun W (hW:Ext wr W)=>HOne W (hE.out.trans hW) l[k] (List.getElem_mem hlt);have HG1:Hid ((l.take (k+1)).all zP=((l.take k).all zP&&zP l[k])):=zmG hlt;have HBad:Hid (zP l[k]=false→R=[]):=fun h=>HResN.out (zmF hlt h);have HPos:Hid (zP l[k]=true→0<(entF l[k]).length):=fun h=>(zho (HOk.out _ (List.getElem_mem hlt)) h).2.1;have HR1:=hid (fun(q:Nat) u (hu:l[k].arr[q]? = some u)=>hE.out.cell (hcell k hlt q u (by rw[←zbZ,Array.getElem?_toList];exact hu)));have hz:=hid (zaG l[k]);have ho1:=hid (zdI l[k]);clear hcell H3 HOne lb HOk HRes HResN
   generalize hacc1:((l.take (k+1)).map entF).flatten=acc1 at HM;have HA1:=hid hacc1;clear hacc1;generalize hacc:((l.take k).map entF).flatten=acc at hO HM hlen;clear hacc;generalize l[k]=x at HM HC hen HR1 hz ho1 HG1 HBad HPos;generalize x.arr=X at HR1 hz ho1 HC;go_wp2_with fail
   simp only[Tryz.sizeOf61,Result.andThen];rw[Oper.upon_value];go_wp2_with fail
   simp only[Tryz.isAgg61,Tryz.sizeOf61,Result.andThen,↓reduceIte,zv HR1.out 21 hz.out];rw[Oper.upon_value];go_wp2_with fail
   have HB3:=hid (Blk.new wr 61 Z);simp only[Tryz.sizeOf61,Result.andThen,↓reduceIte,zg HB3.out (by rw[hz.out];exact zbq) (by rw[hz.out,HZ.out]) ho1.out,hz.out];rw[Oper.upon_skip];rw[World.setRow_alloc_new];have HB2:=hid (Blk.new wr 61 X);have HE2:=hid (Ext.alloc wr (.cells X 61));clear HB3 HR1;go_wp2_with fail
   generalize wr.alloc (.cells X 61)=w2 at HB2 HE2⊢;simp only[Tryz.isAgg61,Tryz.sizeOf61,Result.andThen,↓reduceIte,za HB2.out 21 hz.out];rw[Oper.upon_value];go_wp2_with fail
   cases hrx:zP x with
   | false=>
    have hnil:=(zlt hrx).2;rw[hnil] at HC;have HB:=hid (HBad.out hrx);clear HBad HPos HM HA1 HG1 hen;refine((HC _ HE2.out).out).mono ?_;rintro en w3 ⟨u,rfl,hu,x3⟩;have HE3:=hid (hE.out.trans (HE2.out.trans x3));obtain rfl:=hu.2 rfl;clear x3 hu HE2 hE hO HC HB2;go_wp2_with fail
    go_ret;exact⟨_,rfl,by rw[HB.out];exact RowAt.nil _,HE3.out⟩
   | true=>
    have hp:=HPos.out hrx;refine((HC _ HE2.out).out).mono ?_;rintro en w3 ⟨u,rfl,hu,x3⟩;have HE3:=hid (hE.out.trans (HE2.out.trans x3));have hO3:=hid (hO.out.ext (HE2.out.trans x3));have hrow:=hu.1;obtain⟨A4,c4,rfl,_⟩:=zz hrow;obtain⟨v',w6,hr6,ho6,hk6⟩:=hO3.out.app HE3.out.size hrow (by rw[List.length_cons];omega) (by omega);have HO6:Hid (OwnF (fN l.length::acc1) w.heap.size v' w6):=by
     unfold Hid;rw[HM.out];exact ho6
    have HE6:=hid (hk6.toExt HE3.out (fun q hq=>(zC hO3.out q hq).1));have d4:(((entF x).length:Int)==0)=false:=by
     have:¬ ((entF x).length:Int)=0:=by omega
     simpa using this
    have HGn:Hid ((l.take (k+1)).all zP=true):=by unfold Hid;rw[HG1.out,hG.out,hrx];rfl
    clear ho6 hk6 hO3 hrow hu x3 HE2 hE hO HC HB2 HBad HPos HG1 hrx hp;go_wp2_with (at_builtin;refine zD rfl (.tmp 25) (.tmp 26) _ _ rfl rfl rfl hr6 ?_)
    go_roundw
    case rel=>exact⟨k+1,_,rfl,by omega,by go_num,HE6,HGn,by rw[HA1.out];exact HO6⟩
    case measure=>simp[intOf];omega
  ·obtain rfl:k=l.length:=by omega
   rw[List.take_length] at hO hG;have HW:=hid (HRes.out hG.out);have d1:decide ((l.length:Int)<l.length)=false:=decide_eq_false (by omega);have d1':decide (l.length<l.length)=false:=decide_eq_false (by omega);clear H3 HOne HRes HResN HOk;go_wp2_with fail
   go_ret;exact⟨_,rfl,by rw[HW.out];exact RowAt.of_row fld_coded hO.out (fun h=>by simp at h),hE.out⟩
end
end Go.Proofs.YtofjpdgojoppbaaGreatDoor
