/-
  Of the claim's proof: OpM, OpN.
-/
import Derived.OpenShut
import Derived.Test.YtofjpdgojoppbaaGreatDoorS20
import Derived.Test.YtofjpdgojoppbaaGreatDoorS36
import Derived.Test.YtofjpdgojoppbaaGreatDoorS37
set_option maxRecDepth 100000
set_option maxHeartbeats 16000000
set_option linter.unusedVariables false
set_option linter.unusedSimpArgs false
namespace Go.Proofs.YtofjpdgojoppbaaGreatDoor
section
open Go.RowKit Go.ChangeShapes Go.WideShapes Go.ChangeAt Go.Deep
theorem za2 {α:Type} (cs:List α) (o k:Nat):cs.drop o=(cs.drop o).take k++cs.drop (o+k):=by
 rw[←List.drop_drop,List.take_append_drop]
theorem zhK (ok:Int→Prop):∀ cs:List Value,(∀ i,i<cs.length → ∃ z,cs[i]? = some (.int .i64 z)∧ok z) → ∃ v:List Int,cs=v.map (Value.int .i64)∧v.length=cs.length ∧ ∀ z∈v,ok z
 | [],_=>⟨[],rfl,rfl,fun z hz=>by cases hz⟩
 | c::cs,h=>by
  obtain⟨z,h1,h2⟩:=h 0 (by simp);obtain⟨v,h3,h4,h5⟩:=zhK ok cs (fun i hi=>by
   have:=h (i+1) (by simp;omega);simpa using this)
  simp at h1;refine⟨z::v,by rw[h1,h3];rfl,by simp[h4],fun y hy=>?_⟩;rcases List.mem_cons.1 hy with rfl | hy
  ·exact h2
  ·exact h5 y hy
theorem zeo:Tryz.prog.cellsOf 33=65:=by kernel_rfl
theorem zeq:Tryz.prog.cellsOf 24=3:=by kernel_rfl
theorem zjg:Tryz.prog.cellsOf 29=2:=by kernel_rfl
theorem zkX:Tryz.prog.cellsOf 36=147:=by kernel_rfl
theorem zie:Tryz.prog.cellsOf 97=2:=by kernel_rfl
theorem zih:Tryz.prog.cellsOf 99=3:=by kernel_rfl
theorem zfg (w:World):zaS Tryz.prog w 33 intsV (fun v=>v.length=65 ∧ ∀ z∈v,in64 z):=by
 intro H enc fuel cs x h;obtain⟨xs,n,_,_,hlen,hxl,hf⟩:=DataW.trod_array Tryz.underlying33 h;rw[zeo] at hlen;obtain⟨v,h1,h2,h3⟩:=zhK okI cs (fun i hi=>by
  have hi65:i<65:=by omega
  have hx:=hf i hi65;rw[zas,Nat.mul_one] at hx;have hlt:i<xs.length:=by omega
  rw[List.getElem?_eq_getElem hlt] at hx;obtain⟨z,hz,oz⟩:=zac w H enc _ _ _ hx;refine⟨z,?_,oz⟩;have h0:((cs.drop i).take 1)[0]? = some (.int .i64 z):=by rw[hz];rfl
  rw[List.getElem?_take,if_pos (by omega),List.getElem?_drop,Nat.add_zero] at h0;exact h0)
 exact⟨v,h1,by omega,fun z hz=>(h3 z hz).bounds⟩
theorem zf3 (w:World):zaS Tryz.prog w 24 (fun p:Int×Int×Int=>[.int .i64 p.1,.int .i64 p.2.1,.int .i64 p.2.2]) (fun p=>in64 p.1∧in64 p.2.1∧in64 p.2.2):=by
 intro H enc fuel cs x h;obtain⟨xs,n,_,_,hlen,hxs,hf⟩:=DataW.trod_struct Tryz.underlying24 h;rw[zeq] at hlen
 match cs,hlen with
 | [c0,c1,c2],_=>
  obtain⟨a,ha,oa⟩:=zv hxs hf (i:=0) rfl zas (zac w);obtain⟨b,hb,ob⟩:=zv hxs hf (i:=1) rfl zas (zac w);obtain⟨c,hc,oc⟩:=zv hxs hf (i:=2) rfl zas (zac w);simp at ha hb hc;subst ha hb hc;exact⟨⟨a,b,c⟩,rfl,oa.bounds,ob.bounds,oc.bounds⟩
theorem zkh (w:World):zaS Tryz.prog w 97 Ver.cells (fun v=>okI v.by_∧okI v.n):=by
 intro H enc fuel cs x h;obtain⟨xs,n,_,_,hlen,hxs,hf⟩:=DataW.trod_struct Tryz.underlying97 h;rw[zie] at hlen
 match cs,hlen with
 | [c0,c1],_=>
  obtain⟨a,ha,oa⟩:=zv hxs hf (i:=0) rfl zas (zac w);obtain⟨b,hb,ob⟩:=zv hxs hf (i:=1) rfl zas (zac w);simp at ha hb;subst ha hb;exact⟨⟨a,b⟩,rfl,oa,ob⟩
theorem zkk (w:World):zaS Tryz.prog w 99 ClauseI.cells (fun c=>in64 c.lo∧in64 c.hi):=by
 intro H enc fuel cs x h;obtain⟨xs,n,_,_,hlen,hxs,hf⟩:=DataW.trod_struct Tryz.underlying99 h;rw[zih] at hlen
 match cs,hlen with
 | [c0,c1,c2],_=>
  obtain⟨a,ha,oa⟩:=zv hxs hf (i:=0) rfl zd0 (zbC Tryz.underlying9);obtain⟨b,hb,ob⟩:=zv hxs hf (i:=1) rfl zie (zkh w);simp[Ver.cells] at ha hb;obtain⟨hb1,hb2⟩:=hb;subst ha hb1 hb2;exact⟨⟨a,b.by_,b.n⟩,rfl,ob.1.bounds,ob.2.bounds⟩
end
section
open Go.RowKit Go.ChangeShapes Go.WideShapes Go.ChangeAt Go.Deep
structure MsgInI (m:MsgI):Prop where
 kind:in64 m.kind
 s:in64 m.s1∧in64 m.s2∧in64 m.s3
 r:in64 m.r1∧in64 m.r2∧in64 m.r3
 f:∀ c∈m.f,in64 c.lo∧in64 c.hi
 k:KnowIn m.k
 held:∀ p∈m.held,zax p.a∧zax p.b
 seq:in64 m.seq
 ents:∀ e∈m.ents,EntIn e
 V:zaA m.V
 A:zaA m.A
 not:∀ v∈m.not,zax v
 code:in64 m.code
theorem zfi (w:World):zaS Tryz.prog w 36 (fun z:SlM×MsgI=>(z.2.at z.1).list) (fun z=>MsgAt w z.1 z.2∧MsgInI z.2):=by
 intro H enc fuel cs x h;obtain⟨xs,n,_,_,hlen,hxs,hf⟩:=DataW.trod_struct Tryz.underlying36 h;rw[zkX] at hlen;obtain⟨f0,e0,o0⟩:=zv hxs hf (i:=0) rfl zas (zac w);obtain⟨f1,e1,o1⟩:=zv hxs hf (i:=1) rfl zeq (zf3 w);obtain⟨f2,e2,o2⟩:=zv hxs hf (i:=2) rfl zeq (zf3 w);obtain⟨f3,e3,_⟩:=zv hxs hf (i:=3) rfl zdf (zcL Tryz.underlying4);obtain⟨f4,e4,o4,p4⟩:=zv hxs hf (i:=4) (sz:=1) rfl (by kernel_rfl) (za8 (w:=w) Tryz.underlying25 (zkk w) zih (by omega) (fun _=>rfl));obtain⟨f5,e5,o5,p5⟩:=zv hxs hf (i:=5) rfl zjg (ziO w)
 obtain⟨f6,e6,o6,p6⟩:=zv hxs hf (i:=6) (sz:=1) rfl (by kernel_rfl) (za8 (w:=w) Tryz.underlying30 (zeA w) zdB (by omega) (fun _=>rfl));obtain⟨f7,e7,o7⟩:=zv hxs hf (i:=7) rfl zas (zac w);obtain⟨f8,e8,_⟩:=zv hxs hf (i:=8) rfl zdf (zcL Tryz.underlying4);obtain⟨f9,e9,o9,p9⟩:=zv hxs hf (i:=9) (sz:=1) rfl (by kernel_rfl) (za8 (w:=w) Tryz.underlying31 (zf4 w) zig (by omega) (fun _=>rfl));obtain⟨f10,e10,o10,p10⟩:=zv hxs hf (i:=10) rfl zeo (zfg w);obtain⟨f11,e11,o11,p11⟩:=zv hxs hf (i:=11) rfl zeo (zfg w)
 obtain⟨f12,e12,o12,p12⟩:=zv hxs hf (i:=12) (sz:=1) rfl (by kernel_rfl) (za8 (w:=w) Tryz.underlying34 (zbu w) zck (by omega) (fun _=>rfl));obtain⟨f13,e13,o13⟩:=zv hxs hf (i:=13) rfl zas (zac w);refine⟨(⟨f4.s,f5.u,f5.v,f6.s,f9.s,f12.s⟩,⟨f0,f1.1,f1.2.1,f1.2.2,f2.1,f2.2.1,f2.2.2,f3,f4.l,f5.k,f6.l,f7,f8,f9.l,f10,f11,f12.l,f13,o10,o11⟩),?_,⟨o4,o5,o6,o9,o12⟩,⟨o0.bounds,o1,o2,p4,p5,p6,o7.bounds,p9,p10,p11,fun y hy=>⟨(p12 y hy).1.bounds,(p12 y hy).2.bounds⟩,o13.bounds⟩⟩;have hend:cs.drop 147=[]:=List.drop_eq_nil_of_le (by omega);have s0:=za2 cs 0 1;have s1:=za2 cs 1 3
 have s2:=za2 cs 4 3;have s3:=za2 cs 7 1;have s4:=za2 cs 8 1;have s5:=za2 cs 9 2;have s6:=za2 cs 11 1;have s7:=za2 cs 12 1;have s8:=za2 cs 13 1;have s9:=za2 cs 14 1;have s10:=za2 cs 15 65;have s11:=za2 cs 80 65;have s12:=za2 cs 145 1;have s13:=za2 cs 146 1;have g0:(cs.drop 0).take 1=_:=e0;have g1:(cs.drop 1).take 3=_:=e1;have g2:(cs.drop 4).take 3=_:=e2;have g3:(cs.drop 7).take 1=_:=e3;have g4:(cs.drop 8).take 1=_:=e4;have g5:(cs.drop 9).take 2=_:=e5;have g6:(cs.drop 11).take 1=_:=e6;have g7:(cs.drop 12).take 1=_:=e7;have g8:(cs.drop 13).take 1=_:=e8
 have g9:(cs.drop 14).take 1=_:=e9;have g10:(cs.drop 15).take 65=_:=e10;have g11:(cs.drop 80).take 65=_:=e11;have g12:(cs.drop 145).take 1=_:=e12;have g13:(cs.drop 146).take 1=_:=e13;rw[g0] at s0;rw[g1] at s1;rw[g2] at s2;rw[g3] at s3;rw[g4] at s4;rw[g5] at s5;rw[g6] at s6;rw[g7] at s7;rw[g8] at s8;rw[g9] at s9;rw[g10] at s10;rw[g11] at s11;rw[g12] at s12;rw[g13,hend] at s13
 have:=s0.trans (congrArg _ (s1.trans (congrArg _ (s2.trans (congrArg _ (s3.trans (congrArg _ (s4.trans (congrArg _ (s5.trans (congrArg _ (s6.trans (congrArg _ (s7.trans (congrArg _ (s8.trans (congrArg _ (s9.trans (congrArg _ (s10.trans (congrArg _ (s11.trans (congrArg _ (s12.trans (congrArg _ s13)))))))))))))))))))))))));rw[List.drop_zero] at this;rw[this];rfl
theorem zfD {e:EntI} (h:EntIn e) (hl:zbQ e=true):EntOk e:=by
 unfold zbQ zdv at hl;simp only[Bool.and_eq_true,decide_eq_true_eq] at hl;exact⟨h.u,by omega,by omega,h.m,by omega,h.ms,h.k,h.o⟩
def zfr (m:MsgI):Bool:=zdL m.ents m.held.length m.not.length m.f
end
end Go.Proofs.YtofjpdgojoppbaaGreatDoor
