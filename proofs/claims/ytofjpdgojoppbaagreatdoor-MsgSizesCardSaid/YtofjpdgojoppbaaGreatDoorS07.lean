/-
  Of the claim's proof: SoG, VerS, IsV.
-/
import Derived.Laws.AppendOwn
import Derived.Shelf.SlSortCmp.NoneTotal
import Derived.Test.YtofjpdgojoppbaaGreatDoorS01
import Derived.Test.YtofjpdgojoppbaaGreatDoorS04
import Derived.Test.YtofjpdgojoppbaaGreatDoorS06
set_option maxRecDepth 100000
set_option maxHeartbeats 16000000
set_option linter.unusedVariables false
set_option linter.unusedSimpArgs false
namespace Go.Proofs.YtofjpdgojoppbaaGreatDoor
section
open Go.RowKit Go.Sort
section
variable {α:Type} [Inhabited α] {enc:α→List Value} {k:Nat}
omit [Inhabited α] in
theorem enc_len (hk:∀ x,(enc x).length=k):∀ l:List α,((l.map enc).flatten).length=l.length*k
 | []=>by simp
 | x::l=>by
  rw[List.map_cons,List.flatten_cons,List.length_append,hk,enc_len hk l,List.length_cons,Nat.add_mul]
  omega
theorem zfz (hk:∀ x,(enc x).length=k) (d:Array α):(flatK enc k d).toList=(d.toList.map enc).flatten:=by
 have hl:=enc_len hk d.toList;refine List.ext_getElem? fun t=>?_;by_cases ht:t<d.size*k
 ·have hk0:0<k:=by
   rcases Nat.eq_zero_or_pos k with h | h
   ·subst h;simp at ht
   ·exact h
  have e1:(flatK enc k d).toList[t]? = some ((enc d[t/k]!)[t%k]!):=by
   have h1:t<(flatK enc k d).size:=by rw[size_flatK];exact ht
   rw[Array.getElem?_toList,Array.getElem?_eq_getElem h1,←getElem!_pos _ t h1,get_flatK _ _ _ _ ht]
  have hq:t/k<d.size:=Nat.div_lt_of_lt_mul (by rw[Nat.mul_comm];exact ht);have hm:t%k<k:=Nat.mod_lt _ hk0;have e2:=zdT k (d.toList.map enc) (t/k) (t%k) (enc d[t/k]) (by
   intro y hy;obtain⟨x,_,rfl⟩:=List.mem_map.1 hy;exact hk x) (by simp[hq]) hm
  have e3:t/k*k+t%k=t:=by rw[Nat.mul_comm];exact Nat.div_add_mod t k
  rw[e3] at e2;rw[e1,e2,getElem!_pos d (t/k) hq];have hm':t%k<(enc d[t/k]).length:=by rw[hk];exact hm
  rw[List.getElem?_eq_getElem hm',getElem!_pos (enc d[t/k]) (t%k) hm']
 ·have a1:(flatK enc k d).toList.length≤t:=by rw[Array.length_toList,size_flatK];omega
  have a2:((d.toList.map enc).flatten).length≤t:=by rw[hl,Array.length_toList];omega
  rw[List.getElem?_eq_none a1,List.getElem?_eq_none a2]
theorem zkz (hk:∀ x,(enc x).length=k) {w:World} {g:Nat} {e:TypeId} {cs:Array Value} {d:Array α} (h:Blk w g e cs) (ht:cs.toList.take (d.size*k)=(d.toList.map enc).flatten):HoldsK enc k w g 0 d:=by
 intro j hj;rw[size_flatK] at hj;rw[Nat.zero_add];refine⟨h.cell ?_,h.frozen j⟩;have h1:j<(flatK enc k d).size:=by rw[size_flatK];exact hj
 have e1:(cs.toList.take (d.size*k))[j]? = (flatK enc k d).toList[j]?:=by rw[ht,zfz hk]
 rw[List.getElem?_take,if_pos hj,Array.getElem?_toList,Array.getElem?_toList,Array.getElem?_eq_getElem h1] at e1;rw[e1,getElem!_pos _ j h1];rfl
theorem ze2 (w:World) (g m:Nat) (d:Array α) (os:Array Obj) (hg:g<w.heap.size):Keep (fun q=>q=g) w (sortWorldK enc k w g 0 m d os):=by
 refine⟨rfl,rfl,rfl,?_,fun q hq hn=>?_⟩
 ·simp[sortWorldK,grow,putRowK,putRow,mapBlock,Sort.ahead]
 ·have hne:¬ g=q:=fun h=>hn h.symm
  show((w.heap.modify g (onCells (putCells id 0 (flatK enc k d))))++os)[q]? = w.heap[q]?
  rw[Array.getElem?_append_left (by simpa using hq),Array.getElem?_modify,if_neg hne]
theorem zfS (hk:∀ x,(enc x).length=k) {w:World} {g:Nat} {e:TypeId} {cs:Array Value} (h:Blk w g e cs) (m:Nat) (d:Array α) (os:Array Obj) (hs:d.size*k≤cs.size) :
  ∃ cs',Blk (sortWorldK enc k w g 0 m d os) g e cs'∧cs'.size=cs.size∧cs'.toList.take (d.size*k)=(d.toList.map enc).flatten:=by
 refine⟨putCells id 0 (flatK enc k d) cs,?_,by simp[putCells],?_⟩
 ·show((w.heap.modify g (onCells (putCells id 0 (flatK enc k d))))++os)[g]? = _
  have hl:=h.lt;unfold Blk at h;rw[Array.getElem?_append_left (by simpa using hl),Array.getElem?_modify,if_pos rfl,h];rfl
 ·rw[←zfz hk]
  refine List.ext_getElem? fun t=>?_;rw[List.getElem?_take];by_cases ht:t<d.size*k
  ·have h1:t<(flatK enc k d).size:=by rw[size_flatK];exact ht
   have h2:t<cs.size:=Nat.lt_of_lt_of_le ht hs;rw[if_pos ht,Array.getElem?_toList,Array.getElem?_toList,Array.getElem?_eq_getElem h1];unfold putCells;rw[Array.getElem?_mapIdx,Array.getElem?_eq_getElem h2];simp only[Option.map_some,Nat.zero_le,Nat.zero_add,true_and,h1,if_true,Nat.sub_zero,id];rw[getElem!_pos _ t h1]
  ·rw[if_neg ht,List.getElem?_eq_none (by rw[Array.length_toList,size_flatK];omega)]
def Cmps (P:Program) (gf:Nat) (enc:α→List Value) (cf:α→α→Int):Prop:=
 ∀ W x y,Calls P gf #[.agg (enc x).toArray,.agg (enc y).toArray] W fun e w'=>e=.returned (.int .i64 (cf x y)) ∧ ∃ q os',w'=grow (W.drewN q) os'
theorem sort_c {P:Program} {ρ:Go.Shelf.Ren} (L:SlLaysF0.n6 P ρ) (aE:∀ w,(isAgg (ρ.t 24)).run P w=.ok true w) (zE:∀ w,(Go.sizeOf (ρ.t 24)).run P w=.ok k w) (hk:∀ x,(enc x).length=k) (h1:∀ x,∀ v∈enc x,v.oneCell'=true) (cf:α→α→Int) (hO:SWO (ltOf cf)) (gf:Nat)
  (eg:∀ args w,(callFunc gf args).run P w=.ok (.enter gf args) w) (hcmp:Cmps P gf enc cf) {w:World} {B:Nat} {e:TypeId} {v:Value} {l:List α} (h:w.ownsRow B e k v l.length (l.map enc).flatten) (hl:l.length≤1000000) :
  Calls P (ρ.f 6) #[v,.func (.func gf) #[] #[]] w fun en w'=>en=.returned (.tuple #[])∧Keep (fun q=>v.ownBlock=some q) w w' ∧ ∃ l':List α,l'.Perm l∧l'.Pairwise (fun x y=>ltOf cf y x=false)∧w'.ownsRow B e k v l'.length (l'.map enc).flatten:=by
 rcases h.2 with⟨rfl,h0⟩ | ⟨g,cap,cs,rfl,hb,hg,h2,h3,h4,h5⟩
 ·have:l=[]:=List.eq_nil_of_length_eq_zero h0
  subst this;exact(AnyF.slices_SortFunc_none { L with } none 0 _ w).mono fun en w' ⟨he,hw⟩=>⟨he,hw ▸ Keep.refl _ _,[],List.Perm.refl _,List.Pairwise.nil,hw ▸ h⟩
 ·have hB:Blk w g e cs:=hg
  have ht:cs.toList.take (l.toArray.size*k)=(l.toArray.toList.map enc).flatten:=by simpa using h5
  have hH:=zkz hk hB ht;have hsz:l.toArray.size*k≤cs.size:=by
   rw[h4];exact Nat.mul_le_mul_right _ (by simpa using h2)
  have hcon:=AnyQ.slices_SortFunc L k aE zE enc hk h1 cf hO gf #[] g 0 cap l.toArray w eg (fun m os dk _ x y=>hcmp _ x y) hH hB.lt (by simp;omega);refine hcon.mono fun en w' ⟨he,d',n,os,hp,hs,hw⟩=>?_;subst hw;have hsize:d'.size=l.length:=by simpa using hp.1
  obtain⟨cs',hB',hz',ht'⟩:=zfS (enc:=enc) hk hB n d' os (by rw[hp.1];exact hsz);refine⟨he,(ze2 w g n d' os hB.lt).mono fun q hq=>by subst hq;rfl,d'.toList,?_,?_,?_⟩
  ·have:=hp.2.2
   rw[Array.toList_extract,Array.toList_extract,List.extract_eq_take_drop,List.extract_eq_take_drop] at this;rw[List.drop_zero,List.drop_zero,List.take_of_length_le (by simp;omega),List.take_of_length_le (by simp)] at this;exact this
  ·refine List.pairwise_iff_getElem.2 fun i j hi hj hij=>?_
   have hi':i<d'.size:=by simpa using hi
   have hj':j<d'.size:=by simpa using hj
   have:=hs i j (Nat.zero_le _) hij (by rw[←hp.1];exact hj');rw[getElem!_pos d' j hj',getElem!_pos d' i hi'] at this;simpa using this
  ·refine⟨enc_len hk _,.inr ⟨g,cap,cs',?_,hb,hB',?_,h3,by rw[hz',h4],?_⟩⟩
   ·rw[show d'.toList.length=l.length by simpa using hsize]
   ·rw[show d'.toList.length=l.length by simpa using hsize];exact h2
   ·rw[show d'.toList.length=d'.size from Array.length_toList];exact ht'
end
end
section
open Go.RowKit Go.Sort
theorem zhH:ltOf zcj=Ver.lt:=by funext a b;exact zfK a b
theorem swo_ver:SWO (ltOf zcj):=by
 rw[zhH];refine⟨Ver.strict.irrefl,Ver.strict.trans,fun a b c h1 h2=>?_⟩;simp only[Ver.lt,decide_eq_false_iff_not] at *;omega
theorem order_e (a b:Ver) (W:World):Calls Tryz.prog 184 #[a.val,b.val] W (Ret (.int .i64 (zcj a b)) W):=(zjz a b W).mono fun _ _ ⟨he,hx,_⟩=>⟨he,hx⟩
theorem zjX {w:World} {B:Nat} {v:Value} {l:List Ver} (h:w.ownsRow B 51 2 v l.length (l.map Ver.cells).flatten) (hl:l.length≤1000000) :
  Calls Tryz.prog 185 #[v,.func (.func 184) #[] #[]] w fun en w'=>en=.returned (.tuple #[])∧Keep (fun q=>v.ownBlock=some q) w w' ∧ ∃ l':List Ver,l'.Perm l∧l'.Pairwise (fun x y=>ltOf zcj y x=false)∧w'.ownsRow B 51 2 v l'.length (l'.map Ver.cells).flatten:=
 sort_c (P:=Tryz.prog) Tryz.sortVer Tryz.isAgg51 Tryz.sizeOf51 ver_coded.len ver_coded.one zcj swo_ver 184 (fun _ _=>zbz Tryz.func184 (by kernel_rfl) (by kernel_rfl)) (fun W x y=>order_g x y W) h hl
theorem vsort_c (w:World) (v:Value) (l:List Ver) (h:Sl w 2 v (l.map Ver.cells)) (hl:l.length≤1000000):Calls Tryz.prog 180 #[v] w (RetQ (RowAt Ver.cells 2 (setL Ver.lt l)) w):=by
 obtain⟨v1,w1,hrun,hown,hkeep,_,hnil⟩:=zeO (P:=Tryz.prog) (ty:=34) zhe (zp w w.heap.size 51 2) (Nat.le_refl _) (zcy Tryz.underlying34 ver_coded h (Ext.refl w)) (by unfold maxLen;omega) (by omega);rw[List.nil_append,Nat.zero_add] at hown;have HE:Hid (Ext w w1):=hkeep.toExt (Ext.refl w) (fun q hq=>by cases hq);have HO:=hid hown;have HB:Hid (∀ q,v1.ownBlock=some q→w.heap.size≤q):=fun q hq=>(zt hown q hq).1;have HN:Hid (l.length=0→v1=.slice none 0 0):=fun h0=>hnil (by omega) rfl;have HL:=hid hl;clear h hown hkeep hnil hl;go_enter Tryz.func180,Tryz.ntmps180;go_wp2_with (first
  | (at_builtin;refine zx rfl (.const (.slice none 0 0)) (.tmp 4) _ _ rfl rfl rfl hrun ?_)
  | (go_at_call 185;refine(zjX HO.out HL.out).mono ?_;rintro e w2 ⟨rfl,k2,l',hp,hs,ho2⟩;have K2:=hid k2;have P2:=hid hp;have S2:=hid hs;have O2:=hid ho2;clear k2 hp hs ho2)
  | (go_at_call 186;refine(zkS _ _ _ _ (by rw[P2.out.length_eq];exact HL.out) O2.out).mono ?_;rintro e w3 ⟨v3,rfl,k3,ho3,_,hn3⟩;have K3:=hid k3;have O3:=hid ho3;have N3:=hid hn3;clear k3 ho3 hn3))
 go_ret;have e:Lib.compact l'=setL Ver.lt l:=zfJ Ver.strict P2.out (by rw[←zhH];exact S2.out);rw[e] at O3;refine⟨_,rfl,RowAt.of_row ver_coded O3.out fun h0=>N3.out (HN.out ?_),(K3.out.toExt (K2.out.toExt HE.out HB.out) HB.out)⟩;have:setL Ver.lt l=[]:=List.eq_nil_of_length_eq_zero h0;rcases l with _ | ⟨x,l⟩
 ·rfl
 ·have:=(zhE Ver.strict (x::l) x).2 (by simp)
  simp_all
end
section
open Go.RowKit
theorem iof_c (w:World) (v:Value) (l:List Ver) (h:Sl w 2 v (l.map Ver.cells)) (hl:l.length≤1000000):Calls Tryz.prog 175 #[v] w (RetQ (RowAt Ver.cells 2 (setL Ver.lt l)) w):=by
 have HS:=hid (vsort_c w v l h hl);obtain⟨A,c,rfl,_⟩:=zr h;clear h;generalize setL Ver.lt l=r at HS⊢;go_enter Tryz.func175,Tryz.ntmps175;go_wp2_with (go_at_call 180;refine(HS.out).mono ?_;rintro e w' ⟨v',rfl,hv',hx⟩)
 go_ret;exact⟨_,rfl,hv',hx⟩
end
end Go.Proofs.YtofjpdgojoppbaaGreatDoor
