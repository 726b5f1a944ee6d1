/-
  What is read of the bytes of an update or a meta is that very one: plain.
-/
import Derived.Test.YtanflgipdiogaaaDoorQaE
import Derived.Test.YtanflgipdiogaaaDoorLbTk
namespace Go.Proofs.YtanflgipdiogaaaDoor
set_option linter.unusedSimpArgs false
set_option linter.unusedVariables false
open Go.RowKit

theorem toNat_63 {z : Int} (h : in64 z) : z.toNat < 9223372036854775808 := by have := h.2; omega
theorem flag_back (b : Bool) {z : Nat} (h : z = (flagZ b).toNat) : ((z : Int) == 1) = b := by subst h; cases b <;> rfl
theorem upd_back {s s1 s2 s3 s4 s5 s6 t1 t2 : ByteArray} {e1 e2 e3 e4 e5 e6 : Int} {z1 z2 z3 z4 z5 z6 : Nat} (r1 : ReadV s 0 z1 z2 s1 e1) (r2 : ReadV s1 e1 z3 z4 s2 e2) (r3 : Read s2 e2 z5 s3 e3) (r4 : ReadT s3 e3 t1 s4 e4) (r5 : ReadT s4 e4 t2 s5 e5) (r6 : Read s5 e5 z6 s6 e6) (u : UpdI) (hi : u.in64) (hu : Rightful u) (hs : s = updB u) : (⟨⟨z1, z2⟩, ⟨⟨z3, z4⟩, z5⟩, t1, t2, (z6 : Int) == 1⟩ : UpdI) = u := by
  obtain ⟨i1, i2, i3, i4, i5⟩ := hi
  have hl : s.data.toList = lebL u.item.by_.toNat ++ (lebL u.item.n.toNat ++ (lebL u.st.v.by_.toNat ++ (lebL u.st.v.n.toNat ++ (lebL u.st.time.toNat ++ (lebL u.p.size ++ (u.p.data.toList ++ (lebL u.d.size ++ (u.d.data.toList ++ (lebL (flagZ u.dead).toNat ++ []))))))))) := by
    rw [hs]
    unfold updB verB
    simp only [ByteArray.data_append, Array.toList_append, numB_list hu.b0, numB_list hu.n0, numB_list hu.b1, numB_list hu.n1, numB_list hu.t0, textB_list, bitB_list, List.append_assoc, List.append_nil]
  have hf := flagZ_in u.dead
  obtain ⟨a1, a2, a3, a4⟩ := r1 _ _ _ rfl (toNat_63 i1) (toNat_63 i2) hl
  obtain ⟨b1, b2, b3, b4⟩ := r2 _ _ _ a4 (toNat_63 i3) (toNat_63 i4) a3
  obtain ⟨c1, c2, c3⟩ := r3 _ _ b4 (toNat_63 i5) b3
  obtain ⟨d1, d2, d3⟩ := r4 _ _ c3 c2
  obtain ⟨f1, f2, f3⟩ := r5 _ _ d3 d2
  obtain ⟨g1, _, _⟩ := r6 _ _ f3 (by omega) f2
  have := hu.b0; have := hu.n0; have := hu.b1; have := hu.n1; have := hu.t0
  obtain ⟨⟨ub, un⟩, ⟨⟨sb, sn⟩, tm⟩, p, d, dead⟩ := u
  dsimp only at *
  rw [flag_back dead g1, d1, f1, show (z1 : Int) = ub by omega, show (z2 : Int) = un by omega, show (z3 : Int) = sb by omega, show (z4 : Int) = sn by omega, show (z5 : Int) = tm by omega]
theorem met_back {s s1 s2 s3 s4 s5 s6 t1 : ByteArray} {e1 e2 e3 e4 e5 e6 : Int} {z1 z2 z3 z4 z5 z6 z7 : Nat} (r1 : ReadV s 0 z1 z2 s1 e1) (r2 : ReadV s1 e1 z3 z4 s2 e2) (r3 : Read s2 e2 z5 s3 e3) (r4 : ReadT s3 e3 t1 s4 e4) (r5 : Read s4 e4 z7 s5 e5) (r6 : Read s5 e5 z6 s6 e6) (u : MetaI) (hi : u.in64) (hu : RightfulM u) (hs : s = metB u) : (⟨⟨z1, z2⟩, ⟨⟨z3, z4⟩, z5⟩, t1, z7, (z6 : Int) == 1⟩ : MetaI) = u := by
  obtain ⟨i1, i2, i3, i4, i5⟩ := hi
  have hl : s.data.toList = lebL u.item.by_.toNat ++ (lebL u.item.n.toNat ++ (lebL u.st.v.by_.toNat ++ (lebL u.st.v.n.toNat ++ (lebL u.st.time.toNat ++ (lebL u.p.size ++ (u.p.data.toList ++ (lebL u.size.toNat ++ (lebL (flagZ u.dead).toNat ++ [])))))))) := by
    rw [hs]
    unfold metB verB
    simp only [ByteArray.data_append, Array.toList_append, numB_list hu.b0, numB_list hu.n0, numB_list hu.b1, numB_list hu.n1, numB_list hu.t0, numB_list hu.d.1, textB_list, bitB_list, List.append_assoc, List.append_nil]
  have hf := flagZ_in u.dead
  obtain ⟨a1, a2, a3, a4⟩ := r1 _ _ _ rfl (toNat_63 i1) (toNat_63 i2) hl
  obtain ⟨b1, b2, b3, b4⟩ := r2 _ _ _ a4 (toNat_63 i3) (toNat_63 i4) a3
  obtain ⟨c1, c2, c3⟩ := r3 _ _ b4 (toNat_63 i5) b3
  obtain ⟨d1, d2, d3⟩ := r4 _ _ c3 c2
  obtain ⟨f1, f2, f3⟩ := r5 _ _ d3 (by have := hu.d; omega) d2
  obtain ⟨g1, _, _⟩ := r6 _ _ f3 (by omega) f2
  have := hu.b0; have := hu.n0; have := hu.b1; have := hu.n1; have := hu.t0; have := hu.d
  obtain ⟨⟨ub, un⟩, ⟨⟨sb, sn⟩, tm⟩, p, sz, dead⟩ := u
  dsimp only at *
  rw [flag_back dead g1, d1, show (z1 : Int) = ub by omega, show (z2 : Int) = un by omega, show (z3 : Int) = sb by omega, show (z4 : Int) = sn by omega, show (z5 : Int) = tm by omega, show (z7 : Int) = sz by omega]
end Go.Proofs.YtanflgipdiogaaaDoor
