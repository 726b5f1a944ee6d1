/-
  Of the claim's proof: LtU, LtE.
-/
import Derived.Test.YtofjpdgojoppbaaGreatDoorS14
set_option maxRecDepth 100000
set_option maxHeartbeats 16000000
set_option linter.unusedVariables false
set_option linter.unusedSimpArgs false
namespace Go.Proofs.YtofjpdgojoppbaaGreatDoor
section
open Go.RowKit
theorem zhn (a b:Int) (w:World):(Op.equalIn 9999 51 (.agg #[.int .i64 a,.int .i64 b]) (.agg #[.int .i64 a,.int .i64 b])).run Tryz.prog w=.ok true w:=by
 simp[go_sem]
theorem zho (a b:Int) (w:World):(Op.equalIn 9998 51 (.agg #[.int .i64 a,.int .i64 b]) (.agg #[.int .i64 a,.int .i64 b])).run Tryz.prog w=.ok true w:=by
 simp[go_sem]
attribute [go_sem 2000] zhn zho
theorem zfT (a b c:Int) (w:World):(Op.equalIn 9999 53 (.agg #[.int .i64 a,.int .i64 b,.int .i64 c]) (.agg #[.int .i64 a,.int .i64 b,.int .i64 c])).run Tryz.prog w=.ok true w:=by
 simp[go_sem]
attribute [go_sem 2000] zfT
theorem ziC (a b c d e:Int) (p q:ByteArray) (x:Bool) (w:World):(Op.equalIn 10000 55 (.agg #[.int .i64 a,.int .i64 b,.int .i64 c,.int .i64 d,.int .i64 e,.string p,.string q,.bool x]) (.agg #[.int .i64 a,.int .i64 b,.int .i64 c,.int .i64 d,.int .i64 e,.string p,.string q,.bool x])).run Tryz.prog w=.ok true w:=by
 simp[go_sem]
theorem ziD (a b c d e f:Int) (p:ByteArray) (x:Bool) (w:World):(Op.equalIn 10000 57 (.agg #[.int .i64 a,.int .i64 b,.int .i64 c,.int .i64 d,.int .i64 e,.string p,.int .i64 f,.bool x]) (.agg #[.int .i64 a,.int .i64 b,.int .i64 c,.int .i64 d,.int .i64 e,.string p,.int .i64 f,.bool x])).run Tryz.prog w=.ok true w:=by
 simp[go_sem]
attribute [go_sem 2000] ziC ziD
def zdv (u:UpdI):Bool:=decide (u.p.size<200)&&decide (u.d.size<400)
theorem zgc (w:World) (u:UpdI):Calls Tryz.prog 15 #[u.val] w (Ret (.bool (zdv u)) w):=by
 have HE:=hid (Ext.alloc w (.cells #[.int .i64 u.item.by_,.int .i64 u.item.n,.int .i64 u.st.v.by_,.int .i64 u.st.v.n,.int .i64 u.st.time,.string u.p,.string u.d,.bool u.dead] 55));unfold zdv UpdI.val;cases d0:decide (u.p.size<200) with
 | false=>
  have d0':decide ((u.p.size:Int)<200)=false:=decide_eq_false (by have:=of_decide_eq_false d0;omega);go_enter Tryz.func15,Tryz.ntmps15;go_wp2_with fail
  go_ret;exact⟨rfl,HE.out⟩
 | true=>
  have d0':decide ((u.p.size:Int)<200)=true:=decide_eq_true (by have:=of_decide_eq_true d0;omega);cases d1:decide (u.d.size<400) with
  | false=>
   have d1':decide ((u.d.size:Int)<400)=false:=decide_eq_false (by have:=of_decide_eq_false d1;omega);go_enter Tryz.func15,Tryz.ntmps15;go_wp2_with fail
   go_ret;exact⟨rfl,HE.out⟩
  | true=>
   have d1':decide ((u.d.size:Int)<400)=true:=decide_eq_true (by have:=of_decide_eq_true d1;omega);go_enter Tryz.func15,Tryz.ntmps15;go_wp2_with fail
   go_ret;exact⟨rfl,HE.out⟩
end
section
open Go.RowKit
def zbQ (e:EntI):Bool:=zdv e.u&&decide (e.m.p.size≤200)
theorem zk6 {α:Type} {p:α→Bool} {f:List α} {k:Nat} (h:k<f.length) (h1:(f.take k).all p=true) (h2:p f[k]=true):(f.take (k+1)).all p=true:=by
 rw[List.take_succ_eq_append_getElem h,List.all_append,h1];simp[h2]
theorem zmx {α:Type} {p:α→Bool} {f:List α} {k:Nat} (h:k<f.length) (h2:p f[k]=false):f.all p=false:=by
 rw[List.all_eq_false];exact⟨f[k],List.getElem_mem h,by simp[h2]⟩
end
end Go.Proofs.YtofjpdgojoppbaaGreatDoor
