/-
  Of the claim's proof: UqI, UqJ, LbM.
-/
import Derived.Test.YtofjpdgojoppbaaGreatDoorS05
import Derived.Test.YtofjpdgojoppbaaGreatDoorS12
set_option maxRecDepth 100000
set_option maxHeartbeats 16000000
set_option linter.unusedVariables false
set_option linter.unusedSimpArgs false
namespace Go.Proofs.YtofjpdgojoppbaaGreatDoor
section
open Go.RowKit
def zS (u:UpdI):Bool:=zD u.item&&(zD u.st.v&&(decide (1≤u.st.time)&&(Pa.rightK u.p&&(decide ((u.d.size:Int)≤200)&&(!u.dead||u.d.toList.isEmpty)))))
theorem zld (w:World) (u:UpdI) (hu:u.p.size≤90000):Calls Tryz.prog 44 #[u.val] w (Ret (.bool (zS u)) w):=by
 have H1:=fun W=>hid (zcv u.item W);have H2:=fun W=>hid (zcv u.st.v W);have H3:=fun W=>hid (Pa.right_c u.p W (by omega));have HB0:=hid (Blk.new w 55 #[.int .i64 u.item.by_,.int .i64 u.item.n,.int .i64 u.st.v.by_,.int .i64 u.st.v.n,.int .i64 u.st.time,.string u.p,.string u.d,.bool u.dead]);have X0:=hid (Ext.alloc w (.cells #[.int .i64 u.item.by_,.int .i64 u.item.n,.int .i64 u.st.v.by_,.int .i64 u.st.v.n,.int .i64 u.st.time,.string u.p,.string u.d,.bool u.dead] 55));unfold Ver.val at H1 H2;unfold zS UpdI.val;clear hu;cases h1:zD u.item
 case' false=>
  rw[h1] at H1;clear h1 H2 H3
 case' true=>
  rw[h1] at H1;cases h2:zD u.st.v
  case' false=>
   rw[h2] at H2;clear h1 h2 H3
  case' true=>
   rw[h2] at H2;cases h3:decide (1≤u.st.time)
   case' false=>
    clear h1 h2
   case' true=>
    cases h4:Pa.rightK u.p
    case' false=>
     rw[h4] at H3;clear h1 h2 h4
    case' true=>
     rw[h4] at H3;clear h1 h2 h4;cases h5:decide ((u.d.size:Int)≤200)
     case' false=>
      skip
     case' true=>
      cases h6:u.dead
      case' false=>
       rw[h6] at HB0 X0
      case' true=>
       rw[h6] at HB0 X0;cases h7:u.d.toList.isEmpty
       case' true=>
        skip
       case' false=>
        skip
 all_goals
  go_enter Tryz.func44,Tryz.ntmps44;go_wp2_with (first
   | (go_at_call 86;have hx0:=X2.out;clear hx0;refine((H3 _).out).mono ?_;rintro e w3 ⟨rfl,hx⟩;have hb:=HB2.out.ext hx;have d0:=hb.cell (i:=0) (v:=.int .i64 u.item.by_) rfl;have d1:=hb.cell (i:=1) (v:=.int .i64 u.item.n) rfl;have d2:=hb.cell (i:=2) (v:=.int .i64 u.st.v.by_) rfl;have d3:=hb.cell (i:=3) (v:=.int .i64 u.st.v.n) rfl;have d4:=hb.cell (i:=4) (v:=.int .i64 u.st.time) rfl;have d5:=hb.cell (i:=5) (v:=.string u.p) rfl;have d6:=hb.cell (i:=6) (v:=.string u.d) rfl;have d7:=hb.cell (i:=7) rfl;have dl:=hb.lt;have X3:=hid (X2.out.trans hx);have HB3:=hid hb;clear hb hx X2)
   | (go_at_call 74;have hx0:=X1.out;clear hx0;refine((H2 _).out).mono ?_;rintro e w2 ⟨rfl,hx⟩;have hb:=HB1.out.ext hx;have b0:=hb.cell (i:=0) (v:=.int .i64 u.item.by_) rfl;have b1:=hb.cell (i:=1) (v:=.int .i64 u.item.n) rfl;have b2:=hb.cell (i:=2) (v:=.int .i64 u.st.v.by_) rfl;have b3:=hb.cell (i:=3) (v:=.int .i64 u.st.v.n) rfl;have b4:=hb.cell (i:=4) (v:=.int .i64 u.st.time) rfl;have b5:=hb.cell (i:=5) (v:=.string u.p) rfl;have b6:=hb.cell (i:=6) (v:=.string u.d) rfl;have b7:=hb.cell (i:=7) rfl;have bl:=hb.lt;have X2:=hid (X1.out.trans hx);have HB2:=hid hb;clear hb hx X1)
   | (go_at_call 74;have hx0:=X0.out;clear hx0;refine((H1 _).out).mono ?_;rintro e w1 ⟨rfl,hx⟩;have hb:=HB0.out.ext hx;have a0:=hb.cell (i:=0) (v:=.int .i64 u.item.by_) rfl;have a1:=hb.cell (i:=1) (v:=.int .i64 u.item.n) rfl;have a2:=hb.cell (i:=2) (v:=.int .i64 u.st.v.by_) rfl;have a3:=hb.cell (i:=3) (v:=.int .i64 u.st.v.n) rfl;have a4:=hb.cell (i:=4) (v:=.int .i64 u.st.time) rfl;have a5:=hb.cell (i:=5) (v:=.string u.p) rfl;have a6:=hb.cell (i:=6) (v:=.string u.d) rfl;have a7:=hb.cell (i:=7) rfl;have al:=hb.lt;have X1:=hid (X0.out.trans hx);have HB1:=hid hb;clear hb hx X0))
  go_ret
  first
  | exact⟨rfl,X3.out⟩
  | exact⟨rfl,X2.out⟩
  | exact⟨rfl,X1.out⟩
theorem zka (w:World) (u:MetaI) (hu:u.p.size≤90000):Calls Tryz.prog 45 #[u.val] w (Ret (.int .i64 u.chk) w):=by
 have H1:=fun W=>hid (zcv u.item W);have H2:=fun W=>hid (zcv u.st.v W);have H3:=fun W=>hid (Pa.right_c u.p W (by omega));have HB0:=hid (Blk.new w 57 #[.int .i64 u.item.by_,.int .i64 u.item.n,.int .i64 u.st.v.by_,.int .i64 u.st.v.n,.int .i64 u.st.time,.string u.p,.int .i64 u.size,.bool u.dead]);have X0:=hid (Ext.alloc w (.cells #[.int .i64 u.item.by_,.int .i64 u.item.n,.int .i64 u.st.v.by_,.int .i64 u.st.v.n,.int .i64 u.st.time,.string u.p,.int .i64 u.size,.bool u.dead] 57));unfold Ver.val at H1 H2;unfold MetaI.chk MetaI.val;clear hu;cases h1:zD u.item
 case' false=>
  rw[zbJ (.inl h1)];rw[h1] at H1;clear h1 H2 H3
 case' true=>
  rw[h1] at H1;cases h2:zD u.st.v
  case' false=>
   rw[zbJ (.inr (by unfold za0;rw[h2,Bool.and_false]))];rw[h2] at H2;clear h1 h2 H3
  case' true=>
   rw[h2] at H2;cases h3:decide (u.st.time<1)
   case' true=>
    have h3':decide (1≤u.st.time)=false:=by simp at h3⊢;omega
    rw[zbJ (.inr (by unfold za0;rw[h3',Bool.false_and]))];clear h1 h2 h3'
   case' false=>
    have h3':decide (1≤u.st.time)=true:=by simp at h3⊢;omega
    have hs:za0 u.st=true:=by unfold za0;rw[h2,h3'];rfl
    cases h4:Pa.rightK u.p
    case' false=>
     rw[zb9 h1 hs h4];rw[h4] at H3;clear h1 h2 h4 h3' hs
    case' true=>
     rw[zbV h1 hs h4];rw[h4] at H3;clear h1 h2 h4 h3' hs;by_cases h5:(200:Int)<u.size
     case' pos=>
      rw[if_pos h5];have d5:decide ((200:Int)<u.size)=true:=decide_eq_true h5;clear h5
     case' neg=>
      rw[if_neg h5];have d5:decide ((200:Int)<u.size)=false:=decide_eq_false h5;clear h5;by_cases h6:u.size<0
      case' pos=>
       rw[if_pos (.inl h6)];have d6:decide (u.size<0)=true:=decide_eq_true h6;clear h6
      case' neg=>
       have d6:decide (u.size<0)=false:=decide_eq_false h6;cases h7:u.dead
       case' false=>
        rw[if_neg (by simp[h6])];rw[h7] at HB0 X0;clear h6
       case' true=>
        rw[h7] at HB0 X0;by_cases h8:0<u.size
        case' pos=>
         rw[if_pos (.inr ⟨rfl,h8⟩)];have d8:decide (0<u.size)=true:=decide_eq_true h8;clear h6 h8
        case' neg=>
         rw[if_neg (by simp[h6,h8])];have d8:decide (0<u.size)=false:=decide_eq_false h8;clear h6 h8
 all_goals
  go_enter Tryz.func45,Tryz.ntmps45;go_wp2_with (first
   | (go_at_call 86;have hx0:=X2.out;clear hx0;refine((H3 _).out).mono ?_;rintro e w3 ⟨rfl,hx⟩;have hb:=HB2.out.ext hx;have d0:=hb.cell (i:=0) (v:=.int .i64 u.item.by_) rfl;have d1:=hb.cell (i:=1) (v:=.int .i64 u.item.n) rfl;have d2:=hb.cell (i:=2) (v:=.int .i64 u.st.v.by_) rfl;have d3:=hb.cell (i:=3) (v:=.int .i64 u.st.v.n) rfl;have d4:=hb.cell (i:=4) (v:=.int .i64 u.st.time) rfl;have d5:=hb.cell (i:=5) (v:=.string u.p) rfl;have d6:=hb.cell (i:=6) (v:=.int .i64 u.size) rfl;have d7:=hb.cell (i:=7) rfl;have dl:=hb.lt;have X3:=hid (X2.out.trans hx);have HB3:=hid hb;clear hb hx X2)
   | (go_at_call 74;have hx0:=X1.out;clear hx0;refine((H2 _).out).mono ?_;rintro e w2 ⟨rfl,hx⟩;have hb:=HB1.out.ext hx;have b0:=hb.cell (i:=0) (v:=.int .i64 u.item.by_) rfl;have b1:=hb.cell (i:=1) (v:=.int .i64 u.item.n) rfl;have b2:=hb.cell (i:=2) (v:=.int .i64 u.st.v.by_) rfl;have b3:=hb.cell (i:=3) (v:=.int .i64 u.st.v.n) rfl;have b4:=hb.cell (i:=4) (v:=.int .i64 u.st.time) rfl;have b5:=hb.cell (i:=5) (v:=.string u.p) rfl;have b6:=hb.cell (i:=6) (v:=.int .i64 u.size) rfl;have b7:=hb.cell (i:=7) rfl;have bl:=hb.lt;have X2:=hid (X1.out.trans hx);have HB2:=hid hb;clear hb hx X1)
   | (go_at_call 74;have hx0:=X0.out;clear hx0;refine((H1 _).out).mono ?_;rintro e w1 ⟨rfl,hx⟩;have hb:=HB0.out.ext hx;have a0:=hb.cell (i:=0) (v:=.int .i64 u.item.by_) rfl;have a1:=hb.cell (i:=1) (v:=.int .i64 u.item.n) rfl;have a2:=hb.cell (i:=2) (v:=.int .i64 u.st.v.by_) rfl;have a3:=hb.cell (i:=3) (v:=.int .i64 u.st.v.n) rfl;have a4:=hb.cell (i:=4) (v:=.int .i64 u.st.time) rfl;have a5:=hb.cell (i:=5) (v:=.string u.p) rfl;have a6:=hb.cell (i:=6) (v:=.int .i64 u.size) rfl;have a7:=hb.cell (i:=7) rfl;have al:=hb.lt;have X1:=hid (X0.out.trans hx);have HB1:=hid hb;clear hb hx X0))
  go_ret
  first
  | exact⟨rfl,X3.out⟩
  | exact⟨rfl,X2.out⟩
  | exact⟨rfl,X1.out⟩
end
section
open Go.RowKit
theorem zfX (w:World) (u:MetaI) (m:Int) (hm:w.cell? ⟨0,0,none⟩=some (.int .i64 m)) (hu:u.p.size≤90000):Calls Tryz.prog 141 #[u.val] w (Ret (.int .i64 u.chk) w):=by
 have HK:=fun(d:ByteArray) (dead:Bool) (z:Int) (hz:chkK u.item u.st u.p d.size dead=z) W (hW:Ext w W)=>(by
  have:=zeZ W ⟨u.item,u.st,u.p,d,dead⟩ m (hW.cell hm) hu;unfold UpdI.chk at this;rw[hz] at this;exact hid this:Hid (Calls Tryz.prog 137 #[UpdI.val ⟨u.item,u.st,u.p,d,dead⟩] W (Ret (.int .i64 z) W)))
 have HB0:=hid (Blk.new w 57 #[.int .i64 u.item.by_,.int .i64 u.item.n,.int .i64 u.st.v.by_,.int .i64 u.st.v.n,.int .i64 u.st.time,.string u.p,.int .i64 u.size,.bool u.dead]);have X0:=hid (Ext.alloc w (.cells #[.int .i64 u.item.by_,.int .i64 u.item.n,.int .i64 u.st.v.by_,.int .i64 u.st.v.n,.int .i64 u.st.time,.string u.p,.int .i64 u.size,.bool u.dead] 57));have e0:((⟨#[]⟩:ByteArray).size:Int)=0:=rfl;have e1:((⟨#[120]⟩:ByteArray).size:Int)=1:=rfl;unfold MetaI.chk;unfold UpdI.val at HK;unfold MetaI.val;clear hm hu;by_cases h1:zD u.item=false∨za0 u.st=false
 ·rw[show chkK u.item u.st u.p u.size u.dead=2 from zbJ h1]
  cases d1:decide ((200:Int)<u.size) with
  | true=>
   have HC:=HK ⟨#[]⟩ false 2 (by exact zbJ h1);clear HK;go_enter Tryz.func141,Tryz.ntmps141;go_wp2_with (go_at_call 137;refine((HC _ X0.out).out).mono ?_;rintro e w1 ⟨rfl,hx⟩;have hb:=HB0.out.ext hx;have a6:=hb.cell (i:=6) (v:=.int .i64 u.size) rfl;have al:=hb.lt;have X1:=hid (X0.out.trans hx);clear hb hx X0)
   go_ret;exact⟨rfl,X1.out⟩
  | false=>
   cases d2:decide (0<u.size) with
   | true=>
    have HC:=HK ⟨#[120]⟩ u.dead 2 (by exact zbJ h1);clear HK;go_enter Tryz.func141,Tryz.ntmps141;go_wp2_with (go_at_call 137;refine((HC _ X0.out).out).mono ?_;rintro e w1 ⟨rfl,hx⟩;have hb:=HB0.out.ext hx;have a6:=hb.cell (i:=6) (v:=.int .i64 u.size) rfl;have al:=hb.lt;have X1:=hid (X0.out.trans hx);clear hb hx X0)
    go_ret;exact⟨rfl,X1.out⟩
   | false=>
    have HC:=HK ⟨#[]⟩ u.dead 2 (by exact zbJ h1);clear HK;go_enter Tryz.func141,Tryz.ntmps141;go_wp2_with (go_at_call 137;refine((HC _ X0.out).out).mono ?_;rintro e w1 ⟨rfl,hx⟩;have hb:=HB0.out.ext hx;have a6:=hb.cell (i:=6) (v:=.int .i64 u.size) rfl;have al:=hb.lt;have X1:=hid (X0.out.trans hx);clear hb hx X0)
    go_ret;exact⟨rfl,X1.out⟩
 ·simp only[not_or,Bool.not_eq_false] at h1
  obtain⟨h1,h2⟩:=h1;cases h3:Pa.rightK u.p with
  | false=>
   rw[show chkK u.item u.st u.p u.size u.dead=13 from zb9 h1 h2 h3];cases d1:decide ((200:Int)<u.size) with
   | true=>
    have HC:=HK ⟨#[]⟩ false 13 (by exact zb9 h1 h2 h3);clear HK;go_enter Tryz.func141,Tryz.ntmps141;go_wp2_with (go_at_call 137;refine((HC _ X0.out).out).mono ?_;rintro e w1 ⟨rfl,hx⟩;have hb:=HB0.out.ext hx;have a6:=hb.cell (i:=6) (v:=.int .i64 u.size) rfl;have al:=hb.lt;have X1:=hid (X0.out.trans hx);clear hb hx X0)
    go_ret;exact⟨rfl,X1.out⟩
   | false=>
    cases d2:decide (0<u.size) with
    | true=>
     have HC:=HK ⟨#[120]⟩ u.dead 13 (by exact zb9 h1 h2 h3);clear HK;go_enter Tryz.func141,Tryz.ntmps141;go_wp2_with (go_at_call 137;refine((HC _ X0.out).out).mono ?_;rintro e w1 ⟨rfl,hx⟩;have hb:=HB0.out.ext hx;have a6:=hb.cell (i:=6) (v:=.int .i64 u.size) rfl;have al:=hb.lt;have X1:=hid (X0.out.trans hx);clear hb hx X0)
     go_ret;exact⟨rfl,X1.out⟩
    | false=>
     have HC:=HK ⟨#[]⟩ u.dead 13 (by exact zb9 h1 h2 h3);clear HK;go_enter Tryz.func141,Tryz.ntmps141;go_wp2_with (go_at_call 137;refine((HC _ X0.out).out).mono ?_;rintro e w1 ⟨rfl,hx⟩;have hb:=HB0.out.ext hx;have a6:=hb.cell (i:=6) (v:=.int .i64 u.size) rfl;have al:=hb.lt;have X1:=hid (X0.out.trans hx);clear hb hx X0)
     go_ret;exact⟨rfl,X1.out⟩
  | true=>
   rw[zbV h1 h2 h3];by_cases h4:(200:Int)<u.size
   ·rw[if_pos h4]
    have d1:decide ((200:Int)<u.size)=true:=decide_eq_true h4;have HC:=HK ⟨#[]⟩ false 0 (by rw[zbV h1 h2 h3,e0];rfl);clear HK;go_enter Tryz.func141,Tryz.ntmps141;go_wp2_with (go_at_call 137;refine((HC _ X0.out).out).mono ?_;rintro e w1 ⟨rfl,hx⟩;have hb:=HB0.out.ext hx;have a6:=hb.cell (i:=6) (v:=.int .i64 u.size) rfl;have al:=hb.lt;have X1:=hid (X0.out.trans hx);clear hb hx X0)
    go_ret;exact⟨rfl,X1.out⟩
   ·rw[if_neg h4]
    have d1:decide ((200:Int)<u.size)=false:=decide_eq_false h4;by_cases h5:0<u.size
    ·have d2:decide (0<u.size)=true:=decide_eq_true h5
     have d3:decide (u.size<0)=false:=decide_eq_false (by omega);cases h6:u.dead with
     | true=>
      rw[if_pos (.inr ⟨rfl,h5⟩)];rw[h6] at HB0 X0;have HC:=HK ⟨#[120]⟩ true 6 (by rw[zbV h1 h2 h3,e1];rfl);clear HK;go_enter Tryz.func141,Tryz.ntmps141;go_wp2_with (go_at_call 137;refine((HC _ X0.out).out).mono ?_;rintro e w1 ⟨rfl,hx⟩;have hb:=HB0.out.ext hx;have a6:=hb.cell (i:=6) (v:=.int .i64 u.size) rfl;have al:=hb.lt;have X1:=hid (X0.out.trans hx);clear hb hx X0)
      go_ret;exact⟨rfl,X1.out⟩
     | false=>
      rw[if_neg (by simp;omega)];rw[h6] at HB0 X0;have HC:=HK ⟨#[120]⟩ false 0 (by rw[zbV h1 h2 h3,e1];rfl);clear HK;go_enter Tryz.func141,Tryz.ntmps141;go_wp2_with (go_at_call 137;refine((HC _ X0.out).out).mono ?_;rintro e w1 ⟨rfl,hx⟩;have hb:=HB0.out.ext hx;have a6:=hb.cell (i:=6) (v:=.int .i64 u.size) rfl;have al:=hb.lt;have X1:=hid (X0.out.trans hx);clear hb hx X0)
      go_ret;exact⟨rfl,X1.out⟩
    ·have d2:decide (0<u.size)=false:=decide_eq_false h5
     have hz:chkK u.item u.st u.p ((⟨#[]⟩:ByteArray).size:Int) u.dead=0:=by rw[zbV h1 h2 h3,e0,if_neg (by decide),if_neg (by simp)]
     by_cases h6:u.size<0
     ·rw[if_pos (.inl h6)]
      have d3:decide (u.size<0)=true:=decide_eq_true h6;have HC:=HK ⟨#[]⟩ u.dead 0 (by exact hz);clear HK;go_enter Tryz.func141,Tryz.ntmps141;go_wp2_with (go_at_call 137;refine((HC _ X0.out).out).mono ?_;rintro e w1 ⟨rfl,hx⟩;have hb:=HB0.out.ext hx;have a6:=hb.cell (i:=6) (v:=.int .i64 u.size) rfl;have al:=hb.lt;have X1:=hid (X0.out.trans hx);clear hb hx X0)
      go_ret;exact⟨rfl,X1.out⟩
     ·rw[if_neg (by simp[h6,h5])]
      have d3:decide (u.size<0)=false:=decide_eq_false h6;have HC:=HK ⟨#[]⟩ u.dead 0 (by exact hz);clear HK;go_enter Tryz.func141,Tryz.ntmps141;go_wp2_with (go_at_call 137;refine((HC _ X0.out).out).mono ?_;rintro e w1 ⟨rfl,hx⟩;have hb:=HB0.out.ext hx;have a6:=hb.cell (i:=6) (v:=.int .i64 u.size) rfl;have al:=hb.lt;have X1:=hid (X0.out.trans hx);clear hb hx X0)
      go_ret;exact⟨rfl,X1.out⟩
end
section
open Go.RowKit
def zao (b:Bool):Int:=if b then 1 else 0
def updF (u:UpdI):List FldI:=[fN u.item.by_,fN u.item.n,fN u.st.v.by_,fN u.st.v.n,fN u.st.time,fT u.p,fT u.d,fN (zao u.dead)]
theorem putU_no (w:World) (u:UpdI) (m:Int) (hm:w.cell? ⟨0,0,none⟩=some (.int .i64 m)) (hu:u.p.size≤90000) (e0:u.chk≠0):Calls Tryz.prog 92 #[u.val] w (Ret (.tuple #[.string ⟨#[]⟩,.int .i64 2]) w):=by
 have HC:=fun W (hW:Ext w W)=>hid (zeZ W u m (hW.cell hm) hu);have d0:(u.chk != 0)=true:=by simp[e0]
 generalize u.chk=ck at HC d0;have HE:=hid (Ext.alloc w (.cells #[.int .i64 u.item.by_,.int .i64 u.item.n,.int .i64 u.st.v.by_,.int .i64 u.st.v.n,.int .i64 u.st.time,.string u.p,.string u.d,.bool u.dead] 55));unfold UpdI.val at HC⊢;clear hm e0;go_enter Tryz.func92,Tryz.ntmps92;go_wp2_with fail
 refine((HC _ HE.out).out).mono ?_;rintro e w1 ⟨rfl,x1⟩;have X1:=hid (HE.out.trans x1);clear x1 HC;go_wp2_with fail
 go_ret2;exact⟨rfl,X1.out⟩
theorem zlw (w:World) (u:UpdI) (m:Int) (hm:w.cell? ⟨0,0,none⟩=some (.int .i64 m)) (hu:u.p.size≤90000) (e0:u.chk=0) (hok:∀ f∈updF u,f.ok) (htot:(encL (updF u)).length≤65536):Calls Tryz.prog 92 #[u.val] w (Ret (.tuple #[.string ⟨(encL (updF u)).toArray⟩,.int .i64 0]) w):=by
 have HC:=fun W (hW:Ext w W)=>hid (zeZ W u m (hW.cell hm) hu);rw[e0] at HC;have HL:=fun W v (h:Sl W 3 v ((updF u).map FldI.cells))=>hid (zdt W v (updF u) h hok (by simp[updF]) htot);have HS:=fun W=>hid (zhv W u.item u.st.v.by_ u.st.v.n u.st.time u.p);have HN:=fun W n=>hid (fN_c W n);have HT:=fun W=>hid (fT_c W u.d);have HG:∀ W,Hid (Calls Tryz.prog 140 #[.bool u.dead] W (Ret (.int .i64 (zao u.dead)) W)):=fun W=>zmd W u.dead;have HE:=hid (Ext.alloc w (.cells #[.int .i64 u.item.by_,.int .i64 u.item.n,.int .i64 u.st.v.by_,.int .i64 u.st.v.n,.int .i64 u.st.time,.string u.p,.string u.d,.bool u.dead] 55))
 have HB:=hid (Blk.new w 55 #[.int .i64 u.item.by_,.int .i64 u.item.n,.int .i64 u.st.v.by_,.int .i64 u.st.v.n,.int .i64 u.st.time,.string u.p,.string u.d,.bool u.dead]);unfold UpdI.val at HC⊢;clear hm e0 hok htot;go_enter Tryz.func92,Tryz.ntmps92;go_wp2_with fail
 generalize w.alloc (.cells #[.int .i64 u.item.by_,.int .i64 u.item.n,.int .i64 u.st.v.by_,.int .i64 u.st.v.n,.int .i64 u.st.time,.string u.p,.string u.d,.bool u.dead] 55)=w0 at HE HB⊢;refine((HC _ HE.out).out).mono ?_;rintro e w1 ⟨rfl,x1⟩;have X1:=hid (HE.out.trans x1);have HB1:=hid (HB.out.ext x1);clear x1 HC HB;have b0:=HB1.out.cell (i:=0) (v:=.int .i64 u.item.by_) rfl;have b1:=HB1.out.cell (i:=1) (v:=.int .i64 u.item.n) rfl;have b2:=HB1.out.cell (i:=2) (v:=.int .i64 u.st.v.by_) rfl;have b3:=HB1.out.cell (i:=3) (v:=.int .i64 u.st.v.n) rfl;have b4:=HB1.out.cell (i:=4) (v:=.int .i64 u.st.time) rfl
 have b5:=HB1.out.cell (i:=5) (v:=.string u.p) rfl;have b6:=HB1.out.cell (i:=6) (v:=.string u.d) rfl;have b7:=HB1.out.cell (i:=7) (v:=.bool u.dead) rfl;have bl:=HB1.out.lt;go_wp2_with fail
 refine zbw (pre:=?pre14) (tl:=?tl14) 15 ?hpre14 ?htl14 (of_decide_eq_true (by kernel_rfl)) (by kernel_rfl) (by kernel_rfl) (by kernel_rfl) (by kernel_rfl) ?_
 case hpre14=>(simp only[List.take_succ_cons,List.take_zero];first | done | exact rfl)
 case htl14=>(simp only[List.drop_succ_cons,List.drop_zero];first | done | exact rfl)
 repeat (first
  | (refine AWq.val rfl rfl rfl rfl (fun K hK=>?_);go_big_quiet_op;refine hK _ ?_;clear hK K)
  | (refine AWq.skip rfl rfl rfl ?_;simp only[Act.put,zq6,zq7,zq8])
  | (refine AWq.call rfl Tryz.func95 (by kernel_rfl) (by kernel_rfl) rfl rfl rfl ?_;apply Exists.intro;refine And.intro (fun wc hc=>?_) ?_;(· (simp only[zh,zm,↓reduceIte,Nat.reduceEqDiff,zq1,zq2,zq3,zq4,zq5];with_reducible exact(HN _ _).out));simp only[Act.put,zq6,zq7,zq8])
  | (refine AWq.call rfl Tryz.func97 (by kernel_rfl) (by kernel_rfl) rfl rfl rfl ?_;apply Exists.intro;refine And.intro (fun wc hc=>?_) ?_;(· (simp only[zh,zm,↓reduceIte,Nat.reduceEqDiff,zq1,zq2,zq3,zq4,zq5];with_reducible exact(HT _).out));simp only[Act.put,zq6,zq7,zq8])
  | (refine AWq.call rfl Tryz.func140 (by kernel_rfl) (by kernel_rfl) rfl rfl rfl ?_;apply Exists.intro;refine And.intro (fun wc hc=>?_) ?_;(· (simp only[zh,zm,↓reduceIte,Nat.reduceEqDiff,zq1,zq2,zq3,zq4,zq5];with_reducible exact(HG _).out));simp only[Act.put,zq6,zq7,zq8])
  | (refine AWq.callQ ((fun v W=>OwnF [fN u.item.by_,fN u.item.n,fN u.st.v.by_,fN u.st.v.n,fN u.st.time,fT u.p] w1.heap.size v W)) ((fun v _ _ he h=>OwnF.ext h he)) rfl Tryz.func139 (by kernel_rfl) (by kernel_rfl) rfl rfl rfl (fun wc hc=>?_) ?_;(· (simp only[zh,zm,↓reduceIte,Nat.reduceEqDiff,zq1,zq2,zq3,zq4,zq5];exact((HS wc).out).mono fun e w' ⟨v,e1,e2,e3⟩=>⟨v,e1,e2.weak hc.size,e3⟩)))
  | (refine AWq.opV (fun v W=>OwnF [fT u.d,fN (zao u.dead)] w1.heap.size v W) (fun v _ _ he h=>OwnF.ext h he) rfl rfl rfl rfl (fun wc hc=>?_) ?_;(· (have hc2:=hc.size;have hc':=hc.rule;clear hc;go_simp;dsimp only[Gives];exact⟨zcm wc hc2 (fT u.d) (fN (zao u.dead)),Ext.alloc _ _⟩))))
 refine AWq.tail rfl rfl rfl (fun w2 x2=>?_);simp only[zl,Act.put,zq6,zq7,zq8];intro v21 h21 v13 h13;obtain⟨v3,w3,hrun,hO3,hk3⟩:=h13.app x2.size h21.sl (by simp) (by simp);have HE3:Hid (Ext w1 w3):=hk3.toExt x2 fun q hq=>(zt h13 q hq).1;have HS3:Hid (Sl w3 3 v3 ((updF u).map FldI.cells)):=hO3.sl;obtain⟨A3,c3,rfl,_⟩:=zr HS3.out;clear hO3 hk3 h13 h21 b0 b1 b2 b3 b4 b5 b6 b7 bl
 at_builtin
 refine zx rfl (.tmp 13) (.tmp 21) _ _ rfl rfl rfl hrun ?_;go_wp2_with fail
 refine((HL _ _ HS3.out).out).mono ?_;rintro e w4 ⟨rfl,x4⟩;go_wp2_with fail
 go_ret2;exact⟨rfl,(X1.out.trans HE3.out).trans x4⟩
end
end Go.Proofs.YtofjpdgojoppbaaGreatDoor
