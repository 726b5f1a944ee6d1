/-
  Of the claim's proof: PfG.
-/
import Derived.Test.YtofjpdgojoppbaaGreatDoorS05
import Derived.Test.YtofjpdgojoppbaaGreatDoorS15
set_option maxRecDepth 100000
set_option maxHeartbeats 16000000
set_option linter.unusedVariables false
set_option linter.unusedSimpArgs false
namespace Go.Proofs.YtofjpdgojoppbaaGreatDoor
open Go.RowKit
theorem getF_c (w:World) (s:ByteArray) (m:Int) (hm:w.cell? ⟨0,0,none⟩=some (.int .i64 m)) (hs:s.size≤90000):Calls Tryz.prog 66 #[.string s] w (fun en w'=>∃ (v:Value) (l:List ClauseI) (z:Int),en=.returned (.tuple #[v,.int .i64 z])∧Ext w w'∧((z=0∧zH l=true∧zg clB l=s∧RowAt ClauseI.cells 3 l v w'∧(∀ c∈l,zdy c)∧w'.ownsRow w.heap.size 99 3 v l.length (l.map ClauseI.cells).flatten)∨(z=6∧v=.slice none 0 0))∧(∀ f,zH f=true→s=zg clB f→z=0∧l=f)):=by
 have HP:=fun W=>hid (zlE W s hs clB ClauseOk (fun W' t ht _=>getC1_c W' t (by omega)));have HPF:=fun W (hW:Ext w W) v l h hl=>hid (ziK W v l m (hW.cell hm) h hl);clear hm hs;go_enter Tryz.func66,Tryz.ntmps66;go_wp2_with fail
 refine((HP _).out).mono ?_;rintro en w1 ⟨v,b,l,rfl,hrow,_,hg,x1,hb,hty⟩;have HRow:=hid hrow;have HTy:=hid hty;have X1:=hid x1;have HG:=hid hg;have HB:=hid hb;have HS:=hid (sameF_c w1 v s _ _ (fun W hW=>HPF W (x1.trans hW) v l (hrow.1.ext hW) (fun c hc=>(hg c hc).1)));clear hrow x1 hg hb HP HPF hty;go_wp2_with fail
 refine(HS.out).mono ?_;rintro en w2 ⟨rfl,x2⟩;have HRow2:=hid (HRow.out.ext x2);have HTy2:=hid (zw HTy.out x2);have X2:=hid (X1.out.trans x2);clear x2 X1 HRow HS;have HD:Hid (∀ f,zH f=true→s=zg clB f→(okZ (zH l)=0∧putB (zH l) (zg clB l)=s)∧l=f):=fun f a0 a1=>by
  obtain⟨h64,hok⟩:=zcq a0;obtain rfl:=HB.out f hok (by omega) a1;rw[a0];exact⟨⟨rfl,a1.symm⟩,rfl⟩
 by_cases hc:okZ (zH l)=0∧putB (zH l) (zg clB l)=s
 ·rw[if_pos hc,if_pos hc]
  have hcl:zH l=true:=by
   cases h:zH l with
   | true=>rfl
   | false=>rw[h] at hc;exact absurd hc.1 (by decide)
  have he:=hc.2;rw[hcl] at he;have HC:=hid hcl;have HE:Hid (zg clB l=s):=he;clear hc hcl he HB;go_wp2_with fail
  go_ret2;exact⟨v,l,0,rfl,X2.out,.inl ⟨rfl,HC.out,HE.out,HRow2.out,HG.out,HTy2.out⟩,fun f a b=>⟨rfl,(HD.out f a b).2⟩⟩
 ·rw[if_neg hc,if_neg hc]
  have HN:=hid hc;clear hc HB;go_wp2_with fail
  go_ret2;exact⟨_,l,6,rfl,X2.out,.inr ⟨rfl,rfl⟩,fun f a b=>absurd (HD.out f a b).1 HN.out⟩
end Go.Proofs.YtofjpdgojoppbaaGreatDoor
