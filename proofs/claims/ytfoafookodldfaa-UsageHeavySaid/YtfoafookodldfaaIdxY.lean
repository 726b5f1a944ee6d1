/-
  The document's pairs: Put in memory.
-/
import Derived.Test.YtfoafookodldfaaIdxW
import Derived.Test.YtfoafookodldfaaApp
namespace Go.Proofs.Ytfoafookodldfaa
set_option linter.unusedSimpArgs false
set_option linter.unusedVariables false
open Go.RowKit

theorem wpList_app {P : Program} {ops : Array Oper} {rest : List Oper} {o : Oper} {a : Act} {Q : Exit → Act → World → Prop} {w w' : World} (hgd : o.guard = none) (s x : Operand) (t tx : TypeId)
    (ho : o.op = .call { callee := .builtin .append, args := #[s, x], argTypes := #[t, tx] }) {v u v' : Value} (hv : a.eval s = v) (hx : a.eval x = u)
    (hrun : (Builtin.append_ #[t, tx] o.type #[v, u]).run P w = .ok v' w') (hK : wpList P ops Q rest (a.put o.dst v') w') : wpList P ops Q (o :: rest) a w := by
  refine wpList_plain hgd fun K hK' => ?_
  unfold Oper.wp
  simp [execOp, ho, resolve, invoke, builtin, hv, hx, hrun, Result.andThen]
  exact hK' _ _ hK

theorem Own.ext {B : Nat} {e : TypeId} {sz n : Nat} {xs : List Value} {v : Value} {w w' : World} (h : Own B e sz n xs v w) (he : Ext w w') : Own B e sz n xs v w' := by
  obtain ⟨hB, hl, g, cap, cs, h1, h2, h3, h4⟩ := h
  exact ⟨Nat.le_trans hB he.size, hl, g, cap, cs, h1, h2, h3.ext he, h4⟩
theorem put_rows {wr : World} (k m : Nat) (xs1 xs2 : List PairI) (s : ByteArray) (n : Int) (u1 u2 : Value) (hk : k ≤ 1000000) (hm : m ≤ 1000000)
    (hs1 : ∀ W, Ext wr W → Src Try.prog 2 33 u1 k (flatP xs1) W) (hs2 : ∀ W, Ext wr W → Src Try.prog 2 33 u2 m (flatP xs2) W) :
    ∃ va wa vb wb vc wc, (Builtin.append_ #[33, 33] 33 #[.slice (some ⟨wr.heap.size, 0, none⟩) 0 0, u1]).run Try.prog (wr.alloc (.cells #[] 43)) = .ok va wa ∧
      (Builtin.append_ #[33, 33] 33 #[va, .slice (some ⟨wa.heap.size, 0, none⟩) 1 1]).run Try.prog (wa.alloc (.cells #[.string s, .int .i64 n] 43)) = .ok vb wb ∧
      (Builtin.append_ #[33, 33] 33 #[vb, u2]).run Try.prog wb = .ok vc wc ∧
      Own wr.heap.size 43 2 (k + 1 + m) (flatP (xs1 ++ ⟨s, n⟩ :: xs2)) vc wc ∧ Ext wr wc := by
  obtain ⟨i0, hi0, hz0, hz1, hz2⟩ := info_parts rpair_info
  have e0 : Ext wr (wr.alloc (.cells #[] 43)) := Ext.alloc _ _
  have o0 : Own wr.heap.size 43 2 0 [] (.slice (some ⟨wr.heap.size, 0, none⟩) 0 0) (wr.alloc (.cells #[] 43)) := Own.new (Nat.le_refl _) _ 2 0 #[] (by unfold maxLen; omega) rfl
  obtain ⟨va, wa, ra, oa, fa⟩ := append_own (P := Try.prog) (ty := 33) Try.underlying33 hi0 hz0 hz1 hz2 rfl o0 rfl (hs1 _ e0) (by unfold maxLen; omega) (by omega)
  have ea : Ext wr wa := Below.trans e0 (fa e0.size).1
  have eb : Ext wr (wa.alloc (.cells #[.string s, .int .i64 n] 43)) := ea.alloc' _
  have ob := oa.ext (Ext.alloc wa (.cells #[.string s, .int .i64 n] 43))
  have sb : Src Try.prog 2 33 (.slice (some ⟨wa.heap.size, 0, none⟩) 1 1) 1 [.string s, .int .i64 n] (wa.alloc (.cells #[.string s, .int .i64 n] 43)) :=
    (Own.new (Nat.le_refl _) 43 2 1 #[.string s, .int .i64 n] (by unfold maxLen; omega) rfl).src Try.underlying33 (by simp [Value.oneCell'])
  obtain ⟨vb, wb, rb, ob', fb⟩ := append_own (P := Try.prog) (ty := 33) Try.underlying33 hi0 hz0 hz1 hz2 rfl ob rfl sb (by unfold maxLen; omega) (by omega)
  have ec : Ext wr wb := Below.trans eb (fb eb.size).1
  obtain ⟨vc, wc, rc, oc, fc⟩ := append_own (P := Try.prog) (ty := 33) Try.underlying33 hi0 hz0 hz1 hz2 rfl ob' rfl (hs2 _ ec) (by unfold maxLen; omega) (by omega)
  refine ⟨va, wa, vb, wb, vc, wc, ra, rb, rc, ?_, Below.trans ec (fc ec.size).1⟩
  have e1 : flatP (xs1 ++ ⟨s, n⟩ :: xs2) = (flatP xs1 ++ [.string s, .int .i64 n]) ++ flatP xs2 := by rw [flatP_append, List.append_assoc]; rfl
  rw [e1]
  simpa using oc

set_option maxRecDepth 100000 in
set_option maxHeartbeats 2000000 in
theorem rput_c (w : World) (B : Nat) (v : Value) (l : List PairI) (s : ByteArray) (n : Int) (h : RowAt B l v w) (hl : l.length < 1000000) (hs : Srt l) : Calls Try.prog 16 #[v, .string s, .int .i64 n] w (RetQ (RowAt w.heap.size (putK s n l)) w) := by
  have HD := hid (rdrop_c w B v l s h (by omega))
  have hds : Srt (rdropK s l) := by rw [rdropK_eq hs]; exact dropK_srt s hs
  have hdl := rdropK_length s l
  have HP : Hid (putK s n l = (rdropK s l).take (rk s (rdropK s l)) ++ ⟨s, n⟩ :: (rdropK s l).drop (rk s (rdropK s l))) := (rputK_eq s n hs).symm
  obtain ⟨i0, hi0, hz0, hz1, hz2⟩ := info_parts rpair_info
  clear h hs
  generalize rdropK s l = d at HD hds hdl HP
  obtain ⟨r1, r2, r3⟩ := rk_split hds s
  generalize rk s d = r at r1 r2 r3 HP
  go_enter Try.func16, Try.ntmps16
  go_wp2_with (go_at_call 19; refine (HD.out).mono ?_; rintro e w1 ⟨v1, rfl, hv1, hx1⟩; obtain ⟨A, c, rfl, k1, k2, k3, k4⟩ := hv1; have HX1 := hid hx1; clear hx1)
  unfold maxLen at k2
  go_loopw [7] (fun i wr => ∃ k : Nat, k ≤ r ∧ i = .int .i64 k ∧ Ext w1 wr) (fun i _ => r - (intOf i).toNat)
  case atStart => exact ⟨0, by omega, rfl, Ext.refl _⟩
  case round =>
    obtain ⟨k, hk, rfl, hE⟩ := hrel
    by_cases hlt : k < r
    · obtain ⟨b, rfl, _, lb, hcell⟩ := k3 (by omega)
      have c0 := hE.cell (hcell k (by omega)).1
      have hb := r2 k (by omega) hlt
      have hkd : k < d.length := by omega
      have HE := hid hE
      clear hcell k3 hE r2 r3
      generalize d[k].name = t at c0 hb
      unfold blt at hb
      go_wp2_with fail
      go_roundw
      case rel => exact ⟨k + 1, by omega, by go_num, HE.out⟩
      case measure => simp [intOf]; omega
    · obtain rfl : k = r := by omega
      have HE := hid hE
      clear hE
      have HK : Hid (k + 1 + (d.length - k) = (putK s n l).length) := by unfold Hid; rw [HP.out]; simp; omega
      have HB1 := hid (Nat.le_trans HX1.out.size HE.out.size)
      by_cases hd0 : d.length = 0
      · obtain ⟨rfl, rfl⟩ := k4 hd0
        have hk0 : k = 0 := by omega
        subst hk0
        have hd : d = [] := List.eq_nil_of_length_eq_zero hd0
        subst hd
        obtain ⟨va, wa, vb, wb, vc, wc, ra, rb, rc, o, ex⟩ := put_rows (wr := wr) 0 0 [] [] s n (.slice none 0 0) (.slice none 0 0) (by omega) (by omega) (fun W _ => Src.ofNil W Try.underlying33 0) (fun W _ => Src.ofNil W Try.underlying33 0)
        have HO := hid o
        have HEx := hid ex
        clear k1 k2 k3 k4 r1 r2 r3 hd0 hds hdl hlt hk o ex
        go_wp2_with (first
          | (at_builtin; refine wpList_app rfl (.tmp 27) (.tmp 30) _ _ rfl rfl rfl ra ?_)
          | (at_builtin; refine wpList_app rfl (.tmp 32) (.tmp 36) _ _ rfl rfl rfl rb ?_)
          | (at_builtin; refine wpList_app rfl (.tmp 38) (.tmp 41) _ _ rfl rfl rfl rc ?_))
        go_ret
        exact ⟨_, rfl, (RowAt.of_own HK.out (by rw [← HK.out]; omega) (by rw [HP.out]; exact HO.out)).mono HB1.out, (HX1.out.trans HE.out).trans HEx.out⟩
      · obtain ⟨b, rfl, _, lb, hcell⟩ := k3 (by omega)
        have HC : Hid (∀ j u, (flatP d)[j]? = some u → w1.cell? ⟨b, j, none⟩ = some u) := flat_cells hcell
        obtain ⟨va, wa, vb, wb, vc, wc, ra, rb, rc, o, ex⟩ := put_rows (wr := wr) k (d.length - k) (d.take k) (d.drop k) s n (.slice (some ⟨b, 0, none⟩) k c) (.slice (if c = k then some ⟨b, 0, none⟩ else some ⟨b, k * 2, none⟩) (d.length - k) (c - k)) (by omega) (by omega)
          (fun W hW => Src.ofSlice W Try.underlying33 _ _ _ _ (by rw [flatP_length, List.length_take]; omega) (fun j u hu => by
            rw [Addr.add_lit, Nat.zero_add]
            refine hW.cell (HE.out.cell (HC.out j u ?_))
            rw [flat_take, List.getElem?_take] at hu
            split at hu
            · exact hu
            · cases hu) (flatP_one _))
          (fun W hW => by
            by_cases hck : c = k
            · rw [if_pos hck]
              refine Src.ofSlice W Try.underlying33 _ _ _ _ (by rw [flatP_length, List.length_drop]) (fun j u hu => ?_) (flatP_one _)
              have := (List.getElem?_eq_some_iff.1 hu).1
              rw [flatP_length, List.length_drop] at this
              omega
            · rw [if_neg hck]
              refine Src.ofSlice W Try.underlying33 _ _ _ _ (by rw [flatP_length, List.length_drop]) (fun j u hu => ?_) (flatP_one _)
              rw [Addr.add_lit]
              refine hW.cell (HE.out.cell (HC.out (k * 2 + j) u ?_))
              rw [flat_drop, List.getElem?_drop] at hu
              exact hu)
        have HO := hid o
        have HEx := hid ex
        have hbr : Nat.lt_of_lt_of_le lb HE.out.size = Nat.lt_of_lt_of_le lb HE.out.size := rfl
        have lbr := Nat.lt_of_lt_of_le lb HE.out.size
        clear hbr o ex k3 k4 r2 hds
        by_cases hkd : k < d.length
        · have c0 := HE.out.cell (hcell k hkd).1
          have hb := r3 k hkd (Nat.le_refl _)
          clear r3 hcell hlt
          generalize d[k].name = t at c0 hb
          unfold blt at hb
          have hck : ¬ c = k := by omega
          rw [if_neg hck] at rc
          go_wp2_with (first
            | (at_builtin; refine wpList_app rfl (.tmp 27) (.tmp 30) _ _ rfl rfl rfl ra ?_)
            | (at_builtin; refine wpList_app rfl (.tmp 32) (.tmp 36) _ _ rfl rfl rfl rb ?_)
            | (at_builtin; refine wpList_app rfl (.tmp 38) (.tmp 41) _ _ rfl rfl rfl rc ?_))
          go_ret
          exact ⟨_, rfl, (RowAt.of_own HK.out (by rw [← HK.out]; omega) (by rw [HP.out]; exact HO.out)).mono HB1.out, (HX1.out.trans HE.out).trans HEx.out⟩
        · clear r3 hcell hlt
          go_wp2_with (first
            | (at_builtin; refine wpList_app rfl (.tmp 27) (.tmp 30) _ _ rfl rfl rfl ra ?_)
            | (at_builtin; refine wpList_app rfl (.tmp 32) (.tmp 36) _ _ rfl rfl rfl rb ?_)
            | (at_builtin; refine wpList_app rfl (.tmp 38) (.tmp 41) _ _ rfl rfl rfl rc ?_))
          all_goals go_ret
          all_goals exact ⟨_, rfl, (RowAt.of_own HK.out (by rw [← HK.out]; omega) (by rw [HP.out]; exact HO.out)).mono HB1.out, (HX1.out.trans HE.out).trans HEx.out⟩
end Go.Proofs.Ytfoafookodldfaa
