/-
  Of the claim's proof: MgC.
-/
import Derived.BigQuiet
import Derived.Test.YtofjpdgojoppbaaGreatDoorS05
import Derived.Test.YtofjpdgojoppbaaGreatDoorS14
set_option maxRecDepth 100000
set_option maxHeartbeats 16000000
set_option linter.unusedVariables false
set_option linter.unusedSimpArgs false
namespace Go.Proofs.YtofjpdgojoppbaaGreatDoor
open Go.RowKit
def sidB (a b c:Int):Bool:=decide (1≤a)&&(decide (a≤64)&&(decide (1≤b)&&decide (1≤c)))
def sidV (a b c:Int):Value:=.agg #[.int .i64 a,.int .i64 b,.int .i64 c]
theorem ziR (w:World) (a b c:Int):Calls Tryz.prog 101 #[sidV a b c] w (Ret (.bool (sidB a b c)) w):=by
 unfold sidB sidV;have HE:=hid (Ext.alloc w (.cells #[.int .i64 a,.int .i64 b,.int .i64 c] 24));cases d1:decide (1≤a) with
 | false=>
  go_enter Tryz.func101,Tryz.ntmps101;go_wp2_with fail
  go_ret;exact⟨rfl,HE.out⟩
 | true=>
  cases d2:decide (a≤64) with
  | false=>
   go_enter Tryz.func101,Tryz.ntmps101;go_wp2_with fail
   go_ret;exact⟨rfl,HE.out⟩
  | true=>
   cases d3:decide (1≤b) with
   | false=>
    go_enter Tryz.func101,Tryz.ntmps101;go_wp2_with fail
    go_ret;exact⟨rfl,HE.out⟩
   | true=>
    go_enter Tryz.func101,Tryz.ntmps101;go_wp2_with fail
    go_ret;exact⟨rfl,HE.out⟩
theorem zjF (w:World) (b:Bool):Calls Tryz.prog 169 #[.bool b] w (Ret (.int .i64 (if b then 1 else 0)) w):=by
 cases b
 all_goals
  go_enter Tryz.func169,Tryz.ntmps169;go_wp2_with fail
  go_ret;exact⟨rfl,Ext.refl _⟩
def nameF (a b c:Int):List FldI:=[fN a,fN b,fN c]
theorem zd8 (w:World) {B:Nat} (hB:B≤w.heap.size) (a b c:FldI):OwnF [a,b,c] B (.slice (some ⟨w.heap.size,0,none⟩) 3 3) (w.alloc (.cells #[.int .i64 a.n,.string a.s,.bool a.t,.int .i64 b.n,.string b.s,.bool b.t,.int .i64 c.n,.string c.s,.bool c.t] 140)):=
 zaH hB 140 3 3 #[.int .i64 a.n,.string a.s,.bool a.t,.int .i64 b.n,.string b.s,.bool b.t,.int .i64 c.n,.string c.s,.bool c.t] (by unfold maxLen;omega) rfl
theorem zgU (w:World) (a b c:Int):Calls Tryz.prog 104 #[sidV a b c] w (RetQ (fun u W=>OwnF (nameF a b c) w.heap.size u W ∧ ∃ q,u=.slice (some ⟨q,0,none⟩) 3 3) w):=by
 have HN:=fun W n=>hid (fN_c W n);have HB:=hid (Blk.new w 24 #[.int .i64 a,.int .i64 b,.int .i64 c]);have HE:=hid (Ext.alloc w (.cells #[.int .i64 a,.int .i64 b,.int .i64 c] 24));unfold sidV nameF;go_enter Tryz.func104,Tryz.ntmps104;go_wp2_with fail
 have hw:=HE.out.size;generalize w.alloc (.cells #[.int .i64 a,.int .i64 b,.int .i64 c] 24)=w0 at HB HE hw⊢;have HWs:=hid hw;have b0:=HB.out.cell (i:=0) (v:=.int .i64 a) rfl;have b1:=HB.out.cell (i:=1) (v:=.int .i64 b) rfl;have b2:=HB.out.cell (i:=2) (v:=.int .i64 c) rfl;have bl:=HB.out.lt;clear hw;refine zc (by kernel_rfl) (by kernel_rfl) (by kernel_rfl) ?_
 repeat (first
  | (refine AWq.val rfl rfl rfl rfl (fun K hK=>?_);go_big_quiet_op;refine hK _ ?_;clear hK K)
  | (refine AWq.skip rfl rfl rfl ?_;simp only[Act.put,zq6,zq7,zq8])
  | (refine AWq.call rfl Tryz.func95 (by kernel_rfl) (by kernel_rfl) rfl rfl rfl ?_;apply Exists.intro;refine And.intro (fun wc hc=>?_) ?_;(· (simp only[zh,zm,↓reduceIte,Nat.reduceEqDiff,zq1,zq2,zq3,zq4,zq5];with_reducible exact(HN _ _).out));simp only[Act.put,zq6,zq7,zq8])
  | (refine AWq.opV (fun u W=>OwnF [fN a,fN b,fN c] w.heap.size u W ∧ ∃ q,u=.slice (some ⟨q,0,none⟩) 3 3) (fun u _ _ he h=>⟨OwnF.ext h.1 he,h.2⟩) rfl rfl rfl rfl (fun wc hc=>?_) ?_;(· (have hc2:=Nat.le_trans HWs.out hc.size;have hc':=hc.rule;clear hc;go_simp;dsimp only[Gives];exact⟨⟨zd8 wc hc2 (fN a) (fN b) (fN c),_,rfl⟩,Ext.alloc _ _⟩)))
  | (refine AWq.opQ ((fun u W=>OwnF [fN a,fN b,fN c] w.heap.size u W ∧ ∃ q,u=.slice (some ⟨q,0,none⟩) 3 3)) ((fun u _ _ he h=>⟨OwnF.ext h.1 he,h.2⟩)) rfl (fun a wc hc hl'=>⟨rfl,?_⟩) ?_;(· (have e:=hl' 12 (of_decide_eq_true (by kernel_rfl));exact⟨e,Ext.refl _⟩))))
 refine AWq.done rfl rfl rfl (fun w2 x2=>?_);simp only[zl,Act.put,zq6,zq7,zq8];intro u2 h2 _ _;go_wp2_with fail
 go_ret;exact⟨_,rfl,h2,HE.out.trans x2⟩
def zR (s:ByteArray) (e:Int):List FldI:=if e=0 then [fT s] else []
theorem zjD (w:World) (s:ByteArray) (e:Int):Calls Tryz.prog 170 #[.string s,.int .i64 e] w (RetQ (RowAt FldI.cells 3 (zR s e)) w):=by
 have HT:=fun W=>hid (fT_c W s);unfold zR;by_cases h:e=0
 ·subst h
  rw[if_pos rfl];go_enter Tryz.func170,Tryz.ntmps170;go_wp2_with fail
  refine((HT _).out).mono ?_;rintro en w1 ⟨rfl,x1⟩;have HO:=hid (zaH (Nat.le_refl _) 140 3 1 #[.int .i64 0,.string s,.bool true] (by unfold maxLen;omega) rfl:OwnF [fT s] w1.heap.size (.slice (some ⟨w1.heap.size,0,none⟩) 1 1) (w1.alloc (.cells #[.int .i64 0,.string s,.bool true] 140)));have X1:=hid x1;clear x1;go_wp2_with fail
  go_ret;exact⟨_,rfl,⟨OwnF.sl (l:=[fT s]) HO.out,fun h=>by cases h⟩,X1.out.alloc' _⟩
 ·rw[if_neg h]
  have d0:(e != 0)=true:=by simp[h]
  clear h;go_enter Tryz.func170,Tryz.ntmps170;go_wp2_with fail
  go_ret;exact⟨_,rfl,RowAt.nil _,Ext.refl _⟩
def sidD (a b c:Int):ByteArray:=(numB a++numB b)++numB c
end Go.Proofs.YtofjpdgojoppbaaGreatDoor
