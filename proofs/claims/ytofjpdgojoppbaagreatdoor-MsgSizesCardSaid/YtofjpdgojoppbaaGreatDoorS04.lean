/-
  Of the claim's proof: Srt, VerP, VrE, UqV, UqC, VerR, VsS, Cpt, VersG1.
-/
import Derived.Lib.SlicesCompact
import Derived.Test.YtofjpdgojoppbaaGreatDoorProg
import Derived.Sort.Grow
import Derived.StillTailTactics
import Derived.Test.YtofjpdgojoppbaaGreatDoorS01
set_option maxRecDepth 100000
set_option maxHeartbeats 16000000
set_option linter.unusedVariables false
set_option linter.unusedSimpArgs false
namespace Go.Proofs.YtofjpdgojoppbaaGreatDoor
section
structure Strict {α:Type} (lt:α→α→Bool):Prop where
 irrefl:∀ a,lt a a=false
 trans:∀ a b c,lt a b=true→lt b c=true→lt a c=true
 total:∀ a b,lt a b=false→a≠b→lt b a=true
section
variable {α:Type} {lt:α→α→Bool}
theorem Strict.asymm (hs:Strict lt) {a b:α} (h:lt a b=true):lt b a=false:=by
 cases k:lt b a with
 | false=>rfl
 | true=>have:=hs.trans _ _ _ h k;rw[hs.irrefl] at this;cases this
def SrtL (lt:α→α→Bool) (l:List α):Prop:=l.Pairwise fun a b=>lt a b=true
theorem zjw (hs:Strict lt):∀ {l m:List α},SrtL lt l→SrtL lt m→(∀ x,x∈l↔x∈m)→l=m
 | [],[],_,_,_=>rfl
 | [],y::m,_,_,h=>absurd ((h y).2 (by simp)) (by simp)
 | x::l,[],_,_,h=>absurd ((h x).1 (by simp)) (by simp)
 | x::l,y::m,hl,hm,h=>by
  obtain⟨hx,hl'⟩:=List.pairwise_cons.1 hl;obtain⟨hy,hm'⟩:=List.pairwise_cons.1 hm;have hxy:x=y:=by
   rcases List.mem_cons.1 ((h x).1 (by simp)) with e | e
   ·exact e
   ·rcases List.mem_cons.1 ((h y).2 (by simp)) with e2 | e2
    ·exact e2.symm
    ·have:=hs.asymm (hx y e2);rw[hy x e] at this;cases this
  subst hxy;rw[zjw hs hl' hm' fun z=>?_]
  constructor
  ·intro hz
   rcases List.mem_cons.1 ((h z).1 (by simp[hz])) with e | e
   ·subst e;have:=hx z hz;rw[hs.irrefl] at this;cases this
   ·exact e
  ·intro hz
   rcases List.mem_cons.1 ((h z).2 (by simp[hz])) with e | e
   ·subst e;have:=hy z hz;rw[hs.irrefl] at this;cases this
   ·exact e
def rankL (lt:α→α→Bool) (x:α):List α→Nat
 | []=>0
 | y::l=>if lt y x then rankL lt x l+1 else 0
theorem zht (x:α):∀ l:List α,rankL lt x l≤l.length
 | []=>Nat.le_refl _
 | y::l=>by
  unfold rankL
  split
  ·have:=zht x l;simp;omega
  ·simp
theorem zhs (x:α):∀ (l:List α) (k:Nat) (h:k<l.length),k<rankL lt x l→lt l[k] x=true
 | y::l,k,h,hk=>by
  unfold rankL at hk
  split at hk
  ·rename_i hy
   cases k with
   | zero=>exact hy
   | succ k=>exact zhs x l k (by simpa using h) (by omega)
  ·omega
theorem ze9 (x:α):∀ (l:List α) (h:rankL lt x l<l.length),lt l[rankL lt x l] x=false
 | y::l,h=>by
  by_cases hy:lt y x=true
  ·have e:rankL lt x (y::l)=rankL lt x l+1:=by simp[rankL,hy]
   have h':rankL lt x l<l.length:=by rw[e] at h;simpa using h
   have:=ze9 x l h';simp only[e,List.getElem_cons_succ];exact this
  ·have e:rankL lt x (y::l)=0:=by simp[rankL,hy]
   simp only[e,List.getElem_cons_zero];simpa using hy
variable [DecidableEq α]
def insL (lt:α→α→Bool) (x:α) (l:List α):List α:=if l[rankL lt x l]? = some x then l else l.take (rankL lt x l)++x::l.drop (rankL lt x l)
theorem zhM (x:α) (l:List α):(insL lt x l).length≤l.length+1:=by
 have:=zht (lt:=lt) x l;unfold insL
 split
 ·omega
 ·simp;omega
theorem zlT (x z:α) (l:List α):z∈insL lt x l↔z∈l∨z=x:=by
 unfold insL
 split
 ·rename_i h
  constructor
  ·exact .inl
  ·rintro(h | rfl)
   ·exact h
   ·exact List.mem_of_getElem? h
 ·have e:z∈l↔z∈l.take (rankL lt x l)∨z∈l.drop (rankL lt x l):=by
   conv=>lhs;rw[←List.take_append_drop (rankL lt x l) l]
   exact List.mem_append
  rw[e,List.mem_append,List.mem_cons]
  constructor
  ·rintro(h | h | h)
   ·exact .inl (.inl h)
   ·exact .inr h
   ·exact .inl (.inr h)
  ·rintro((h | h) | h)
   ·exact .inl h
   ·exact .inr (.inr h)
   ·exact .inr (.inl h)
omit [DecidableEq α] in
theorem rankL_split (hs:Strict lt) {l:List α} (hl:SrtL lt l) (x:α):(∀ z∈l.take (rankL lt x l),lt z x=true)∧(∀ z∈l.drop (rankL lt x l),lt z x=false):=by
 constructor
 ·intro z hz
  obtain⟨k,hk,rfl⟩:=List.getElem_of_mem hz
  rw[List.length_take] at hk
  rw[List.getElem_take]
  exact zhs x l k (by omega) (by omega)
 ·intro z hz
  obtain⟨k,hk,rfl⟩:=List.getElem_of_mem hz
  rw[List.length_drop] at hk
  rw[List.getElem_drop]
  have h0:=ze9 (lt:=lt) x l (by omega)
  by_cases hk0:k=0
  ·subst hk0;exact h0
  ·have h1:=List.pairwise_iff_getElem.1 hl (rankL lt x l) (rankL lt x l+k) (by omega) (by omega) (by omega)
   cases h2:lt l[rankL lt x l+k] x with
   | false=>rfl
   | true=>have:=hs.trans _ _ _ h1 h2;rw[h0] at this;cases this
theorem zl5 (hs:Strict lt) {l:List α} (hl:SrtL lt l) (x:α):SrtL lt (insL lt x l):=by
 obtain⟨h1,h2⟩:=rankL_split hs hl x;unfold insL
 split
 ·exact hl
 ·rename_i hne
  have hd:∀ z∈l.drop (rankL lt x l),lt x z=true:=by
   intro z hz;refine hs.total _ _ (h2 z hz) ?_;rintro rfl;obtain⟨k,hk,he⟩:=List.getElem_of_mem hz;rw[List.length_drop] at hk;rw[List.getElem_drop] at he;have h0:=ze9 (lt:=lt) z l (by omega);by_cases hk0:k=0
   ·subst hk0
    exact hne (by rw[List.getElem?_eq_getElem (by omega)];exact congrArg some he)
   ·have:=List.pairwise_iff_getElem.1 hl (rankL lt z l) (rankL lt z l+k) (by omega) (by omega) (by omega)
    rw[he,h0] at this;cases this
  refine List.pairwise_append.2 ⟨hl.sublist (List.take_sublist _ _),List.pairwise_cons.2 ⟨hd,hl.sublist (List.drop_sublist _ _)⟩,fun a ha b hb=>?_⟩;rcases List.mem_cons.1 hb with rfl | hb
  ·exact h1 a ha
  ·exact hs.trans _ _ _ (h1 a ha) (hd b hb)
def setL (lt:α→α→Bool) (l:List α):List α:=l.foldl (fun acc x=>insL lt x acc) []
theorem zdx (hs:Strict lt):∀ (l acc:List α),SrtL lt acc→SrtL lt (l.foldl (fun acc x=>insL lt x acc) acc)∧(∀ z,z∈l.foldl (fun acc x=>insL lt x acc) acc↔z∈acc∨z∈l)∧(l.foldl (fun acc x=>insL lt x acc) acc).length≤acc.length+l.length
 | [],acc,h=>⟨h,fun z=>by simp,by simp⟩
 | x::l,acc,h=>by
  obtain⟨h1,h2,h3⟩:=zdx hs l (insL lt x acc) (zl5 hs h x);refine⟨h1,fun z=>?_,?_⟩
  ·rw[List.foldl_cons,h2,zlT,List.mem_cons]
   constructor
   ·rintro((h | h) | h)
    ·exact .inl h
    ·exact .inr (.inl h)
    ·exact .inr (.inr h)
   ·rintro(h | h | h)
    ·exact .inl (.inl h)
    ·exact .inl (.inr h)
    ·exact .inr h
  ·rw[List.foldl_cons]
   have:=zhM (lt:=lt) x acc;simp only[List.length_cons];omega
theorem zlo (hs:Strict lt) (l:List α):SrtL lt (setL lt l):=(zdx hs l [] List.Pairwise.nil).1
theorem zhE (hs:Strict lt) (l:List α) (z:α):z∈setL lt l↔z∈l:=by have:=(zdx hs l [] List.Pairwise.nil).2.1 z;simpa[setL] using this
section
variable [Inhabited α]
theorem zhF (d:Array α) (z:α):z∈Lib.compactUpTo d d.size↔z∈d.toList:=by
 unfold Lib.compactUpTo;simp only[List.mem_map,List.mem_filter,List.mem_range]
 constructor
 ·rintro⟨i,⟨hi,_⟩,rfl⟩
  rw[getElem!_pos d i hi];simp
 ·intro hz
  obtain⟨i,hi,rfl⟩:=List.getElem_of_mem hz;simp only[Array.length_toList] at hi;have key:∀ k,(h:k<d.size) → ∃ i,(i<d.size∧Lib.keeps d i=true)∧d[i]! = d[k]:=by
   intro k
   induction k with
   | zero=>intro h;exact⟨0,⟨h,Lib.keeps_lt_one d 0 (by omega)⟩,getElem!_pos d 0 h⟩
   | succ k ih=>
    intro h;by_cases e:d[k+1]! = d[k]!
    ·obtain⟨i,h1,h2⟩:=ih (by omega)
     rw[getElem!_pos d (k+1) h,getElem!_pos d k (by omega)] at e;exact⟨i,h1,h2.trans e.symm⟩
    ·exact⟨k+1,⟨h,Lib.keeps_pos e⟩,getElem!_pos d (k+1) h⟩
  obtain⟨i',h1,h2⟩:=key i hi;exact⟨i',h1,by simpa using h2⟩
theorem zib (hs:Strict lt) {d:Array α} (hd:∀ i j,i<j→j<d.size→lt d[j]! d[i]! = false):SrtL lt (Lib.compactUpTo d d.size):=by
 unfold Lib.compactUpTo SrtL;rw[List.pairwise_map];refine(List.Pairwise.imp_of_mem ?_ (List.Pairwise.filter (Lib.keeps d) (List.pairwise_lt_range (n:=d.size))));intro i j hi hj hij;have hj':=List.mem_filter.1 hj;have hjs:j<d.size:=List.mem_range.1 hj'.1;have hk:j=0∨d[j]! ≠ d[j-1]!:=by simpa[Lib.keeps] using hj'.2
 have hne:d[j]! ≠ d[j-1]!:=by rcases hk with h | h;omega;exact h
 have h1:lt d[j-1]! d[j]! = true:=hs.total _ _ (hd (j-1) j (by omega) hjs) hne;by_cases e:i=j-1
 ·rw[e];exact h1
 ·have h2:=hd i (j-1) (by omega) (by omega)
  by_cases e2:d[i]! = d[j-1]!
  ·rw[e2];exact h1
  ·exact hs.trans _ _ _ (hs.total _ _ h2 (Ne.symm e2)) h1
theorem zfJ (hs:Strict lt) {l m:List α} (hp:m.Perm l) (hm:m.Pairwise (fun x y=>lt y x=false)):Lib.compact m=setL lt l:=by
 have e:Lib.compact m=Lib.compactUpTo m.toArray m.toArray.size:=by unfold Lib.compact;rw[List.size_toArray]
 rw[e];refine zjw hs (zib hs fun i j hij hj=>?_) (zlo hs l) fun z=>by rw[zhF,zhE hs,←hp.mem_iff]
 have hj':j<m.length:=by simpa using hj
 have:=List.pairwise_iff_getElem.1 hm i j (by omega) hj' hij;rw[getElem!_pos m.toArray j hj,getElem!_pos m.toArray i (by omega)];simpa using this
end
end
end
section
open Go.RowKit
structure Ver where
 by_:Int
 n:Int
structure Stamp where
 v:Ver
 time:Int
def Ver.val (v:Ver):Value:=.agg #[.int .i64 v.by_,.int .i64 v.n]
def Stamp.val (s:Stamp):Value:=.agg #[.int .i64 s.v.by_,.int .i64 s.v.n,.int .i64 s.time]
def Ver.cells (v:Ver):List Value:=[.int .i64 v.by_,.int .i64 v.n]
def Stamp.cells (s:Stamp):List Value:=[.int .i64 s.v.by_,.int .i64 s.v.n,.int .i64 s.time]
def cmpI (a b:Int):Int:=if a<b then -1 else if b<a then 1 else 0
def orI:List Int→Int
 | []=>0
 | x::l=>if x=0 then orI l else x
theorem zlG (zs:List Int) (k:Nat) (h:k<zs.length) (h0:zs[k]=0):orI (zs.drop k)=orI (zs.drop (k+1)):=by
 rw[List.drop_eq_getElem_cons h,orI,if_pos h0]
theorem orI_hit (zs:List Int) (k:Nat) (h:k<zs.length) (h0:¬ zs[k]=0):orI (zs.drop k)=zs[k]:=by
 rw[List.drop_eq_getElem_cons h,orI,if_neg h0]
def Ints (l:List Int):List (List Value):=l.map fun z=>[.int .i64 z]
theorem sl_ints {w:World} {g:Nat} {t:TypeId} {zs:List Int} (h:Blk w g t (zs.map (Value.int .i64)).toArray) (hm:zs.length≤maxLen):Sl w 1 (.slice (some ⟨g,0,none⟩) zs.length zs.length) (Ints zs):=
 Sl.of_blk h (by simp[Ints]) (Nat.le_refl _) hm fun k x j u hk hj=>by
  simp only[Ints,List.getElem?_map,Option.map_eq_some_iff] at hk;obtain⟨z,hz,rfl⟩:=hk
  match j,hj with
  | 0,hj=>simp at hj;subst hj;simp[hz]
def zcj (a b:Ver):Int:=orI [cmpI a.by_ b.by_,cmpI a.n b.n]
def Ver.lt (a b:Ver):Bool:=decide (a.by_<b.by_∨a.by_=b.by_∧a.n<b.n)
theorem zfK (a b:Ver):decide (zcj a b<0)=a.lt b:=by
 obtain⟨a1,a2⟩:=a;obtain⟨b1,b2⟩:=b;simp only[zcj,orI,cmpI,Ver.lt,decide_eq_decide];by_cases h1:a1<b1 <;> by_cases h2:b1<a1 <;> by_cases h3:a2<b2 <;> by_cases h4:b2<a2 <;> simp[h1,h2,h3,h4] <;> omega
theorem Ver.strict:Strict Ver.lt:=⟨fun a=>by simp[Ver.lt],fun a b c h1 h2=>by simp only[Ver.lt,decide_eq_true_eq] at *;omega,fun a b h hne=>by
 simp only[Ver.lt,decide_eq_true_eq,decide_eq_false_iff_not] at *;have:¬ (a.by_=b.by_∧a.n=b.n):=fun h=>hne (by cases a;cases b;simp_all);omega⟩
def eq2 (a1 a2 b1 b2:Int):Bool:=decide (a1=b1∧a2=b2)
theorem ver_ext {a b:Ver} (h1:a.by_=b.by_) (h2:a.n=b.n):a=b:=by cases a;cases b;simp_all
theorem zjL (a b:Ver):eq2 a.by_ a.n b.by_ b.n=true↔a=b:=by
 simp only[eq2,decide_eq_true_eq];exact⟨fun⟨h1,h2⟩=>ver_ext h1 h2,fun h=>by subst h;simp⟩
theorem zhV (a b:Int):eq2 a b a b=true:=by simp[eq2]
end
section
open Go.RowKit
instance:DecidableEq Ver:=fun a b=>if h:a.by_=b.by_∧a.n=b.n then isTrue (by cases a;cases b;simp_all) else isFalse (by rintro rfl;exact h ⟨rfl,rfl⟩)
end
section
open Go.RowKit
def zD (v:Ver):Bool:=decide (1≤v.by_∧v.by_≤64∧1≤v.n)
def zct (v:Ver):Int:=if zD v then 0 else 2
theorem zbW {v:Ver} (h:zD v=true):zct v=0:=by unfold zct;rw[if_pos h]
theorem zcG {v:Ver} (h:zD v=false):zct v=2:=by unfold zct;rw[h];rfl
theorem zbx (v:Ver) (w:World):Calls Tryz.prog 142 #[v.val] w (Ret (.int .i64 (zct v)) w):=by
 unfold Ver.val;go_enter Tryz.func142,Tryz.ntmps142;go_wp2
 all_goals go_ret
 all_goals refine⟨?_,(Ext.refl _).alloc' _⟩
 all_goals simp_all[zct,zD]
 all_goals omega
theorem zcv (v:Ver) (w:World):Calls Tryz.prog 74 #[v.val] w (Ret (.bool (zD v)) w):=by
 unfold Ver.val;go_enter Tryz.func74,Tryz.ntmps74;go_wp2
 all_goals go_ret
 all_goals refine⟨?_,(Ext.refl _).alloc' _⟩
 all_goals simp_all[zD]
 all_goals omega
end
section
open Go.RowKit
structure UpdI where
 item:Ver
 st:Stamp
 p:ByteArray
 d:ByteArray
 dead:Bool
def UpdI.cells (u:UpdI):List Value:=[.int .i64 u.item.by_,.int .i64 u.item.n,.int .i64 u.st.v.by_,.int .i64 u.st.v.n,.int .i64 u.st.time,.string u.p,.string u.d,.bool u.dead]
def UpdI.val (u:UpdI):Value:=.agg #[.int .i64 u.item.by_,.int .i64 u.item.n,.int .i64 u.st.v.by_,.int .i64 u.st.v.n,.int .i64 u.st.time,.string u.p,.string u.d,.bool u.dead]
def upd0:UpdI:=⟨⟨0,0⟩,⟨⟨0,0⟩,0⟩,⟨#[]⟩,⟨#[]⟩,false⟩
instance:DecidableEq Stamp:=fun a b=>if h:a.v=b.v∧a.time=b.time then isTrue (by cases a;cases b;simp_all) else isFalse (by rintro rfl;exact h ⟨rfl,rfl⟩)
instance:DecidableEq UpdI:=fun a b=>if h:a.item=b.item∧a.st=b.st∧a.p=b.p∧a.d=b.d∧a.dead=b.dead then isTrue (by cases a;cases b;simp_all) else isFalse (by rintro rfl;exact h ⟨rfl,rfl,rfl,rfl,rfl⟩)
structure MetaI where
 item:Ver
 st:Stamp
 p:ByteArray
 size:Int
 dead:Bool
def MetaI.val (u:MetaI):Value:=.agg #[.int .i64 u.item.by_,.int .i64 u.item.n,.int .i64 u.st.v.by_,.int .i64 u.st.v.n,.int .i64 u.st.time,.string u.p,.int .i64 u.size,.bool u.dead]
def za0 (s:Stamp):Bool:=decide (1≤s.time)&&zD s.v
def zdz (s:Stamp):Int:=if za0 s then 0 else 2
theorem zje {s:Stamp} (h:za0 s=true):zdz s=0:=by unfold zdz;rw[if_pos h]
theorem zkV {s:Stamp} (h:za0 s=false):zdz s=2:=by unfold zdz;rw[h];rfl
theorem zk9 (s:Stamp) (w:World):Calls Tryz.prog 166 #[s.val] w (Ret (.int .i64 (zdz s)) w):=by
 unfold Stamp.val;have hb:=fun W=>zbx s.v W;unfold Ver.val at hb;have Hb:=hid hb;clear hb;go_enter Tryz.func166,Tryz.ntmps166;go_wp2_with (go_at_call 142;refine(Hb.out _).mono ?_;rintro e w' ⟨rfl,hx⟩)
 ·go_ret
  exact⟨by simp_all[zdz,za0] <;> omega,(Ext.refl _).alloc' _⟩
 ·go_ret
  exact⟨by simp_all[zdz,zct,za0] <;> omega,((Ext.refl _).alloc' _).trans hx⟩
end
section
open Go.RowKit
theorem ziB (a1 a2 b1 b2:Int) (w:World):(Op.equalIn 10000 51 (.agg #[.int .i64 a1,.int .i64 a2]) (.agg #[.int .i64 b1,.int .i64 b2])).run Tryz.prog w=.ok (eq2 a1 a2 b1 b2) w:=by
 by_cases h1:a1=b1 <;> by_cases h2:a2=b2 <;> simp[go_sem,eq2,h1,h2]
attribute [go_sem 2000] ziB
end
section
open Go.RowKit
theorem zgI (w:World) (u v:Value) (a b:List Ver) (hu:Sl w 2 u (a.map Ver.cells)) (hv:Sl w 2 v (b.map Ver.cells)):Calls Tryz.prog 40 #[u,v] w (Ret (.bool (decide (a=b))) w):=by
 obtain⟨A,c,rfl,h1,h2,h3⟩:=zr hu;obtain⟨B,d,rfl,k1,k2,k3⟩:=zr hv;have HR:Hid ((a≠b→decide (a=b)=false)∧(a=b→decide (a=b)=true)):=⟨fun h=>decide_eq_false h,fun h=>decide_eq_true h⟩
 generalize decide (a=b)=r at HR⊢;clear hu hv;unfold maxLen at h2 k2;by_cases hlen:a.length=b.length
 ·have dl:((a.length:Int) != b.length)=false:=by simp[hlen]
  go_enter Tryz.func40,Tryz.ntmps40;go_wp2_with fail
  go_loopw [5] (fun i wr=>∃ k:Nat,k≤a.length∧i=.int .i64 k∧Ext w wr∧Hid (a.take k=b.take k)) (fun i _=>a.length-(intOf i).toNat)
  case atStart=>exact⟨0,by omega,rfl,Ext.refl _,rfl⟩
  case round=>
   obtain⟨k,hk,rfl,hE,ht⟩:=hrel;have HE:=hid hE;by_cases hka:k<a.length
   ·have hkb:k<b.length:=by omega
    obtain⟨b1,o1,rfl,lb1,hcell1⟩:=h3 (by omega);obtain⟨b2,o2,rfl,lb2,hcell2⟩:=k3 (by omega);have c0:=hE.cell (hcell1 k hka 0 _ rfl);have c1:=hE.cell (hcell1 k hka 1 _ rfl);have d0:=hE.cell (hcell2 k hkb 0 _ rfl);have d1:=hE.cell (hcell2 k hkb 1 _ rfl);rw[Nat.add_zero] at c0 d0;have lr1:=Nat.lt_of_lt_of_le lb1 hE.size;have lr2:=Nat.lt_of_lt_of_le lb2 hE.size;have HNe:Hid (a[k]≠b[k]→r=false):=fun h=>HR.out.1 (fun e=>h (by subst e;rfl));have HNx:Hid (a[k]=b[k]→a.take (k+1)=b.take (k+1)):=fun h=>by
     rw[List.take_succ_eq_append_getElem hka,List.take_succ_eq_append_getElem hkb,ht.out,h]
    clear hcell1 hcell2 h3 k3 hE ht HR;generalize a[k]=x at c0 c1 HNe HNx;generalize b[k]=y at d0 d1 HNe HNx;by_cases hxy:x=y
    ·have e1:eq2 x.by_ x.n y.by_ y.n=true:=by subst hxy;simp[eq2]
     have HNx:=hid (HNx.out hxy);clear HNe hxy;go_wp2_with fail
     refine zc (by kernel_rfl) (by kernel_rfl) (by kernel_rfl) ?_
     repeat (first
      | (refine AWq.val rfl rfl rfl rfl (fun K hK=>?_);go_big_quiet_op;refine hK _ ?_;clear hK K)
      | (refine AWq.skip rfl rfl rfl ?_;simp only[Act.put,zq6,zq7,zq8]))
     refine AWq.done rfl rfl rfl (fun w5 x5=>?_);simp only[zl,Act.put,zq6,zq7,zq8];go_wp2_with fail
     go_roundw
     case rel=>exact⟨k+1,by omega,by go_num,HE.out.trans x5,HNx.out⟩
     case measure=>simp[intOf];omega
    ·have e1:eq2 x.by_ x.n y.by_ y.n=false:=by
      rw[Bool.eq_false_iff];intro h;exact hxy (by cases x;cases y;simp[eq2] at h;simp[h])
     have HNe:=hid (HNe.out hxy);clear HNx hxy;go_wp2_with fail
     refine zc (by kernel_rfl) (by kernel_rfl) (by kernel_rfl) ?_
     repeat (first
      | (refine AWq.val rfl rfl rfl rfl (fun K hK=>?_);go_big_quiet_op;refine hK _ ?_;clear hK K)
      | (refine AWq.skip rfl rfl rfl ?_;simp only[Act.put,zq6,zq7,zq8]))
     refine AWq.done rfl rfl rfl (fun w5 x5=>?_);simp only[zl,Act.put,zq6,zq7,zq8];go_wp2_with fail
     go_ret;exact⟨by rw[HNe.out];rfl,HE.out.trans x5⟩
   ·obtain rfl:k=a.length:=by omega
    have hr:Hid (r=true):=HR.out.2 (by have:=ht.out;rw[List.take_length] at this;rw[hlen,List.take_length] at this;exact this);clear hE h3 k3 ht HR;go_wp2_with fail
    go_ret;exact⟨by rw[hr.out];rfl,HE.out⟩
 ·have dl:((a.length:Int) != b.length)=true:=by simp;omega
  have hr:Hid (r=false):=HR.out.1 (fun e=>hlen (by rw[e]));clear h3 k3 HR;go_enter Tryz.func40,Tryz.ntmps40;go_wp2_with fail
  go_ret;exact⟨by rw[hr.out];rfl,Ext.refl _⟩
end
section
open Go.RowKit Go.Lib
instance:Inhabited Ver:=⟨⟨0,0⟩⟩
theorem ver_coded:Coded Ver.cells 2:=⟨fun _=>rfl,fun a u hu=>by simp[Ver.cells] at hu;rcases hu with rfl | rfl <;> rfl⟩
theorem zla:(Tryz.prog.info? 51).map (fun i=>(i.zero,i.size,i.bytes))=some (some (.agg #[.int .i64 0,.int .i64 0]),2,16):=by kernel_rfl
theorem zhe:Elem Tryz.prog 34 51 2 16:=by
 obtain⟨i0,h0,h1,h2,h3⟩:=info_parts zla;exact⟨Tryz.underlying34,i0,_,h0,h1,h2,h3,rfl⟩
theorem zeroVer (w:World):(zeroValue 51).run Tryz.prog w=.ok (.agg #[.int .i64 0,.int .i64 0]) w:=by kernel_rfl
def zhc (w:World) (B:Nat) (v:Value) (l:List Ver) (en:Ending) (w':World):Prop:=
 ∃ v',en=.returned v'∧Keep (fun q=>v.ownBlock=some q) w w'∧w'.ownsRow B 51 2 v' (compact l).length ((compact l).map Ver.cells).flatten∧v'.ownBlock=v.ownBlock∧(v=.slice none 0 0→v'=.slice none 0 0)
structure CptIn (w wr:World) (g cap:Nat) (d:Array Ver):Prop where
 keep:Keep (fun q=>q=g) w wr
 row:RowB Ver.cells 2 wr g 51 cap d
theorem CptIn.drewN {w wr:World} {g cap:Nat} {d:Array Ver} (h:CptIn w wr g cap d) (n:Nat):CptIn w (wr.drewN n) g cap d:=⟨h.keep.drewN n,h.row.ext (Ext.drewN _ _)⟩
theorem CptIn.cells {w wr:World} {g cap:Nat} {d:Array Ver} (h:CptIn w wr g cap d) (j:Nat) (hj:j<d.size):wr.cell? ⟨g,j*2,none⟩=some (.int .i64 (d[j]!).by_)∧wr.cell? ⟨g,j*2+1,none⟩=some (.int .i64 (d[j]!).n):=
 ⟨h.row.cell ver_coded j 0 _ hj (by omega) rfl,h.row.cell ver_coded j 1 _ hj (by omega) rfl⟩
theorem CptIn.store {w wr:World} {g cap:Nat} {d:Array Ver} (h:CptIn w wr g cap d) (hn:d.size≤cap) (k:Nat) (hk:k<d.size) (x:Ver):CptIn w ((wr.setCell ⟨g,k*2,none⟩ (.int .i64 x.by_)).setCell ⟨g,k*2+1,none⟩ (.int .i64 x.n)) g cap (d.setIfInBounds k x):=by
 obtain⟨h1,h2⟩:=h.row.store ver_coded hn k hk x;exact⟨h.keep.trans h2,h1⟩
theorem CptIn.done {w wr:World} {g cap B:Nat} {d:Array Ver} (h:CptIn w wr g cap d) (hb:B≤g) (hc:cap≤maxLen) (k:Nat) (l:List Ver) (hl:d.toList=l) (hk:l.length=k) (hkc:k≤cap):wr.ownsRow B 51 2 (.slice (some ⟨g,0,none⟩) k cap) l.length (l.map Ver.cells).flatten:=by
 obtain⟨cs,b1,b2,b3⟩:=h.row;subst hk;refine⟨ver_coded.flat_len l,.inr ⟨g,cap,cs,rfl,hb,b1,hkc,hc,b2,?_⟩⟩;rw[←hl,←b3]
 congr 2
theorem zkS (w:World) (B:Nat) (v:Value) (l:List Ver) (hl:l.length≤1000000) (h:w.ownsRow B 51 2 v l.length (l.map Ver.cells).flatten):Calls Tryz.prog 186 #[v] w (zhc w B v l):=by
 by_cases h2:l.length<2
 ·have hcpt:compact l=l:=compact_all l fun j hj=>keeps_lt_one _ j (by omega)
  have HP:Hid (∀ v',v'=v→zhc w B v l (.returned v') w):=by
   rintro v' rfl;exact⟨_,rfl,Keep.refl _ _,by rw[hcpt];exact h,rfl,fun h=>h⟩
  clear hcpt;rcases h.2 with⟨rfl,h0⟩ | ⟨g,cap,cs,rfl,hb,hg,hn,hm,hsz,ht⟩
  all_goals
   clear h;go_enter Tryz.func186,Tryz.ntmps186;go_wp2_with fail
   go_ret
   first | done | exact HP.out _ rfl
 ·rcases h.2 with⟨rfl,h0⟩ | ⟨g,cap,cs,rfl,hb,hg,hn,hm,hsz,ht⟩
  ·omega
  ·have hI:CptIn w w g cap l.toArray:=⟨Keep.refl _ _,cs,hg,hsz,by simpa using ht⟩
   have HPost:Hid (∀ w' k,Keep (fun q=>q=g) w w'→(compact l).length=k→w'.ownsRow B 51 2 (.slice (some ⟨g,0,none⟩) k cap) (compact l).length ((compact l).map Ver.cells).flatten→zhc w B (.slice (some ⟨g,0,none⟩) l.length cap) l (.returned (.slice (some ⟨g,0,none⟩) k cap)) w'):=
    fun w' k h1 _ h3=>⟨_,rfl,h1.mono (fun q hq=>by subst hq;rfl),h3,rfl,fun h=>by cases h⟩
   have HAll:Hid ((∀ j,j<l.length→keeps l.toArray j=true)→compact l=l):=fun h=>compact_all l h;have HB:=hid hb;unfold maxLen at hm;clear hg hsz ht h hb;go_enter Tryz.func186,Tryz.ntmps186;go_wp2_with fail
   go_loopw [3] (fun s3 wr=>∃ k:Nat,1≤k∧k≤l.length∧s3=.int .i64 k∧CptIn w wr g cap l.toArray ∧ ∀ j,j<k→keeps l.toArray j=true) (fun s3 _=>l.length-(Go.RowKit.intOf s3).toNat)
   case atStart=>exact⟨1,Nat.le_refl _,by omega,rfl,hI,keeps_lt_one _⟩
   case round=>
    obtain⟨k,hk1,hk,rfl,hJ,hall⟩:=hrel;clear hI;by_cases hlt:k<l.length
    ·obtain⟨c0,c1⟩:=hJ.cells k (by simpa using hlt)
     obtain⟨p0,p1⟩:=hJ.cells (k-1) (by simp;omega);have lg:=hJ.row.lt;have HJ:=hid hJ;have A:=hid hall;clear hall hJ;generalize hx:l.toArray[k]! = x at c0 c1;generalize hy:l.toArray[k-1]! = y at p0 p1;have HX:=hid hx;have HY:=hid hy;clear hx hy;by_cases hdup:x=y
     ·subst hdup
      have hne:=zhV x.by_ x.n;go_wp2_with fail
      go_quiet (fail)
      go_wp2_with fail
      clear c0 c1 p0 p1 lg;have HB2:Hid (keeps l.toArray k=false):=keeps_neg (by omega) (by rw[HX.out,HY.out]);have HJ2:=hid (HJ.out.drewN nq);generalize World.drewN wr nq=W1 at HJ2⊢;clear HJ HX HY;go_loopw [3,5] (fun s3 s5 wr=>∃ (kk k2:Nat) (dk:Array Ver),s3=.int .i64 kk∧s5=.int .i64 k2∧1≤k2∧k+k2≤l.length∧CptIn w wr g cap dk∧CompInv l.toArray (k+k2) kk dk) (fun _ s5 _=>l.length-(Go.RowKit.intOf s5).toNat)
      case atStart=>exact⟨k,1,l.toArray,rfl,rfl,Nat.le_refl _,by omega,HJ2.out,CompInv.start A.out HB2.out⟩
      case round=>
       obtain⟨kk,k2,dk,rfl,rfl,h1,hle,hJ,hI⟩:=hrel;clear HJ2 HB2;have hkk:=hI.lt;have hds:dk.size=l.length:=by simpa using hI.size
       by_cases hlt2:k+k2<l.length
       ·have cm:=hJ.cells (k+k2) (by omega)
        have cp:=hJ.cells (k+k2-1) (by omega);obtain⟨ck,ck1⟩:=hJ.cells kk (by omega);rw[hI.high (k+k2) (by omega),show(k+k2)*2=k*2+k2*2 by omega] at cm;rw[hI.high (k+k2-1) (by omega),show(k+k2-1)*2=k*2+(k2-1)*2 by omega] at cp;obtain⟨cm0,cm1⟩:=cm;obtain⟨cp0,cp1⟩:=cp;have fk:=hJ.row.frozen (kk*2);have fk1:=hJ.row.frozen (kk*2+1);have lg:=hJ.row.lt;have HJ:=hid hJ;have HI:=hid hI;have HD:=hid hds;clear hJ hI hds;generalize hu:l.toArray[k+k2]! = u at cm0 cm1;generalize hv:l.toArray[k+k2-1]! = v at cp0 cp1;generalize (dk[kk]!).by_=o0 at ck;generalize (dk[kk]!).n=o1 at ck1;have HU:=hid hu;have HV:=hid hv
        clear hu hv;by_cases huv:u=v
        ·subst huv
         have hne:=zhV u.by_ u.n;go_wp2_with fail
         go_quiet (fail)
         go_wp2_with fail
         exact⟨⟨kk,k2+1,dk,rfl,by go_num,by omega,by omega,HJ.out.drewN _,HI.out.skip (keeps_neg (by omega) (by rw[HU.out,HV.out]))⟩,by simp[Go.RowKit.intOf];omega⟩
        ·have hkeep:Hid (keeps l.toArray (k+k2)=true):=keeps_pos (by rw[HU.out,HV.out];exact huv)
         have hne:eq2 u.by_ u.n v.by_ v.n=false:=by rw[Bool.eq_false_iff,Ne,zjL];exact huv
         clear huv;have ek2:(k2:Int)-1<((l.length-k:Nat):Int):=by omega
         go_wp2_with fail
         go_quiet (fail)
         clear ek2;go_wp2_with fail
         refine⟨⟨kk+1,k2+1,dk.setIfInBounds kk u,by go_num,by go_num,by omega,by omega,(HJ.out.drewN _).store (by rw[HD.out];exact hn) kk (by rw[HD.out];omega) u,?_⟩,by simp[Go.RowKit.intOf];omega⟩;have:=HI.out.keep (by simpa using hlt2) hkeep.out;rwa [HU.out] at this
       ·have hend:k+k2=l.length:=by omega
        obtain⟨w2,hrun,hk2,hrow⟩:=zj6 (P:=Tryz.prog) (ty:=0) zhe zeroVer rfl (fun u hu=>by simp[Value.cells] at hu;rcases hu with rfl | rfl <;> rfl) ver_coded hJ.row (by rw[hds];exact hn) kk (cap-kk) (by omega);rw[hds] at hrun;have HF:Hid (CptIn w w2 g cap (dk.extract 0 kk)):=⟨hJ.keep.trans hk2,hrow⟩
        have HC:Hid ((dk.extract 0 kk).toList=compact l∧(compact l).length=kk):=by
         have hI':CompInv l.toArray l.toArray.size kk dk:=by rw[List.size_toArray,←hend];exact hI
         have e:compact l=compactUpTo l.toArray l.toArray.size:=by unfold compact;rw[List.size_toArray]
         rw[e];refine⟨List.ext_getElem? fun j=>?_,hI'.len⟩;rw[Array.toList_extract,List.extract_eq_take_drop,List.drop_zero,Nat.sub_zero,List.getElem?_take];by_cases hj:j<kk
         ·rw[if_pos hj,hI'.low j hj,getElem!_pos dk j (by omega)]
          simp
         ·rw[if_neg hj,List.getElem?_eq_none (by rw[hI'.len];omega)]
        have HE:=hid hend;clear hend hJ hI hk2 hrow;go_wp2_with fail
        go_ret;exact HPost.out _ _ HF.out.keep HC.out.2 (HF.out.done HB.out (by unfold maxLen;omega) _ _ HC.out.1 HC.out.2 (by omega))
     ·have hkeep:Hid (keeps l.toArray k=true):=keeps_pos (by rw[HX.out,HY.out];exact hdup)
      have hne:eq2 x.by_ x.n y.by_ y.n=false:=by rw[Bool.eq_false_iff,Ne,zjL];exact hdup
      clear hdup;go_wp2_with fail
      go_quiet (fail)
      go_wp2_with fail
      exact⟨⟨k+1,by omega,by omega,by go_num,HJ.out.drewN _,fun j hj=>by
       by_cases e:j=k
       ·subst e;exact hkeep.out
       ·exact A.out j (by omega)⟩,by simp[Go.RowKit.intOf];omega⟩
    ·obtain rfl:k=l.length:=by omega
     have HJ:=hid hJ;have A:=hid hall;clear hall hJ;go_wp2_with fail
     go_ret;have e:=HAll.out A.out;refine HPost.out _ _ HJ.out.keep (by rw[e]) ?_;rw[e];exact HJ.out.done HB.out (by unfold maxLen;omega) _ _ (by simp) rfl hn
end
section
open Go.RowKit
theorem zl7 {w w':World} (h:Ext w w') (hd:w.drawn≤w'.drawn):∃ q os',w'=Go.Sort.grow (w.drewN q) os':=by
 obtain⟨E,hE⟩:=h.wext;subst hE;refine⟨E.drawn-w.drawn,E.objs,?_⟩;have h1:w.drawn≤E.drawn:=hd
 show({ w with heap:=w.heap++E.objs,drawn:=E.drawn }:World)={ w with heap:=w.heap++E.objs,drawn:=w.drawn+(E.drawn-w.drawn) }
 rw[Nat.add_sub_cancel' h1]
theorem isNaN_q (a:Int) (w:World):Calls Tryz.prog 196 #[.int .i64 a] w fun e w'=>e=.returned (.bool false)∧w'=w:=by
 go_enter Tryz.func196,Tryz.ntmps196;go_wp2
 go_ret;exact⟨rfl,rfl⟩
theorem zkR (a b:Int) (w:World):Calls Tryz.prog 190 #[.int .i64 a,.int .i64 b] w fun e w'=>e=.returned (.int .i64 (cmpI a b))∧w'=w:=by
 go_enter Tryz.func190,Tryz.ntmps190;go_wp2_with (go_at_call 196;refine(isNaN_q _ _).mono ?_;rintro e w' ⟨rfl,rfl⟩)
 all_goals go_ret
 all_goals refine⟨?_,rfl⟩
 all_goals simp_all[cmpI]
 all_goals omega
theorem or_q (zs:List Int) (v:Value) (w:World) (hs:Sl w 1 v (Ints zs)):Calls Tryz.prog 189 #[v] w fun e w'=>e=.returned (.int .i64 (orI zs))∧w'=w:=by
 obtain⟨A,c,rfl,hn,hm,hc⟩:=hs;simp only[Ints,List.length_map] at hn hc⊢;unfold maxLen at hm;go_enter Tryz.func189,Tryz.ntmps189;go_wp2
 go_loop [8] (fun i=>∃ k:Nat,k≤zs.length∧i=.int .i64 k∧orI zs=orI (zs.drop k)) (fun i=>zs.length-(intOf i).toNat)
 case atStart=>exact⟨0,by omega,rfl,by simp⟩
 case round=>
  obtain⟨k,hk,rfl,hor⟩:=hrel;have Hor:=hid hor;clear hor;by_cases hlt:k<zs.length
  ·obtain⟨b,o,rfl,hb,hcell⟩:=hc (by omega)
   have hck:=hcell k [.int .i64 zs[k]] 0 (.int .i64 zs[k]) (by simp[hlt]) rfl;simp only[Nat.mul_one,Nat.add_zero] at hck;clear hc hcell;go_wp2
   ·go_ret
    exact⟨(by rw[Hor.out,orI_hit zs k hlt (by simp_all)];rfl),rfl⟩
   ·go_round
    case rel=>exact⟨k+1,by omega,by go_num,by rw[Hor.out,zlG zs k hlt (by simp_all)]⟩
    case measure=>simp[intOf];omega
  ·clear hc
   go_wp2
   go_ret;exact⟨by rw[Hor.out,List.drop_eq_nil_of_le (by omega)];rfl,rfl⟩
theorem zjz (a b:Ver) (w:World):Calls Tryz.prog 184 #[a.val,b.val] w fun e w'=>e=.returned (.int .i64 (zcj a b))∧Ext w w'∧w.drawn≤w'.drawn:=by
 unfold Ver.val;have HX:=hid ((Ext.alloc w (.cells #[.int .i64 a.by_,.int .i64 a.n] 51)).alloc' (.cells #[.int .i64 b.by_,.int .i64 b.n] 51));have HA:=hid ((Blk.new w 51 #[.int .i64 a.by_,.int .i64 a.n]).alloc (.cells #[.int .i64 b.by_,.int .i64 b.n] 51));have HB:=hid (Blk.new (w.alloc (.cells #[.int .i64 a.by_,.int .i64 a.n] 51)) 51 #[.int .i64 b.by_,.int .i64 b.n]);rw[World.size_alloc] at HB;have HD:Hid (((w.alloc (.cells #[.int .i64 a.by_,.int .i64 a.n] 51)).alloc (.cells #[.int .i64 b.by_,.int .i64 b.n] 51)).drawn=w.drawn):=rfl;go_enter Tryz.func184,Tryz.ntmps184;go_wp2_with fail
 generalize (w.alloc (.cells #[.int .i64 a.by_,.int .i64 a.n] 51)).alloc (.cells #[.int .i64 b.by_,.int .i64 b.n] 51)=w1 at HX HA HB HD⊢;have HX2:Hid (Ext w w1.drew):=HX.out.drew';have HA2:Hid (Blk w1.drew w.heap.size 51 #[.int .i64 a.by_,.int .i64 a.n]):=HA.out;have HB2:Hid (Blk w1.drew (w.heap.size+1) 51 #[.int .i64 b.by_,.int .i64 b.n]):=HB.out;have HD2:Hid (w.drawn≤w1.drew.drawn):=by have:=HD.out;show w.drawn≤w1.drawn+1;omega
 refine wp_region_still_tail 10 (by kernel_rfl) (by kernel_rfl) ?_;simp only[List.take_succ_cons,List.take_zero,List.drop_succ_cons,List.drop_zero,World.drew_eq];generalize w1.drew=w2 at HX2 HA2 HB2 HD2⊢;clear HX HA HB HD;have a0:=HA2.out.cell (i:=0) (v:=.int .i64 a.by_) rfl;have a1:=HA2.out.cell (i:=1) (v:=.int .i64 a.n) rfl;have b0:=HB2.out.cell (i:=0) (v:=.int .i64 b.by_) rfl;have b1:=HB2.out.cell (i:=1) (v:=.int .i64 b.n) rfl;have la:=HA2.out.lt;have lb:=HB2.out.lt
 repeat (first
  | (refine wpStill_step (fun K hK=>?_);go_simp;refine hK _ ?_;clear hK K)
  | (refine wpStill_step (fun K hK=>?_);go_simp;refine⟨_,zkR _ _ _,hK _ ?_⟩;clear hK K))
 refine wpStill_nil ?_;have HS:=hid (sl_ints (w:=w2.alloc (.cells #[.int .i64 (cmpI a.by_ b.by_),.int .i64 (cmpI a.n b.n)] 3)) (zs:=[cmpI a.by_ b.by_,cmpI a.n b.n]) (Blk.new w2 3 #[.int .i64 (cmpI a.by_ b.by_),.int .i64 (cmpI a.n b.n)]) (by simp[maxLen]));clear a0 a1 b0 b1 la lb;go_wp2_with (go_at_call 189;refine(or_q [cmpI a.by_ b.by_,cmpI a.n b.n] _ _ HS.out).mono ?_;rintro e w' ⟨rfl,rfl⟩)
 go_ret;exact⟨rfl,HX2.out.alloc' _,HD2.out⟩
theorem order_g (a b:Ver) (W:World):Calls Tryz.prog 184 #[a.val,b.val] W fun e w'=>e=.returned (.int .i64 (zcj a b)) ∧ ∃ q os',w'=Go.Sort.grow (W.drewN q) os':=
 (zjz a b W).mono fun e w' ⟨he,hx,hd⟩=>⟨he,zl7 hx hd⟩
end
end Go.Proofs.YtofjpdgojoppbaaGreatDoor
