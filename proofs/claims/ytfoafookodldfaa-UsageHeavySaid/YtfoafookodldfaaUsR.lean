/-
  Package usage: Heavy itself.
-/
import Derived.Test.YtfoafookodldfaaUsQ
namespace Go.Proofs.Ytfoafookodldfaa
set_option linter.unusedSimpArgs false
set_option linter.unusedVariables false
open Go.RowKit

def much (most : Int) (u : UseI) : Bool := decide (most < u.bytes)
def heavyK (A : List UseI) (most : Int) : List UseI := (A.filter (much most)).filter fun u => !(A.filter (much most)).any (belowK u)
theorem all_short {l : List LeafI} (hs : Few100 l) : Short (allK l (preK l)) := by
  have hq := pre_length (l := l) (fun x hx => (hs.2 x hx).1)
  have h3 : l.length * 1001 ≤ 100 * 1001 := Nat.mul_le_mul_right _ hs.1
  refine ⟨by rw [allK_length]; omega, fun u hu => ?_⟩
  obtain ⟨p, hp, rfl⟩ := List.mem_map.1 hu
  exact pre_size (fun x hx => (hs.2 x hx).1) p hp

set_option maxRecDepth 100000 in
set_option maxHeartbeats 4000000 in
theorem uheavy_c (w : World) (v : Value) (l : List LeafI) (most : Int) (h : Sl w 5 v (Leaves l)) (hs : Few100 l) : Calls Try.prog 36 #[v, .int .i64 most] w (RetQ (fun v' w' => Sl w' 3 v' (Uses (heavyK (allK l (preK l)) most))) w) := by
  obtain ⟨i0, hi0, hz0, hz1, hz2⟩ := info_parts use_info
  have HA := hid (uall_c w v l h hs)
  have hsh := all_short hs
  generalize allK l (preK l) = A at HA hsh
  clear h hs
  unfold heavyK
  go_enter Try.func36, Try.ntmps36
  go_wp2_with (go_at_call 32; refine (HA.out).mono ?_; rintro e w1 ⟨v1, rfl, hv, hx⟩; obtain ⟨B, c, rfl, k1, k2, k3⟩ := sl_use hv; have HX1 := hid hx; clear hx hv)
  unfold maxLen at k2
  clear HA
  go_loopw [5, 15] (fun v i wr => ∃ k : Nat, k ≤ A.length ∧ i = .int .i64 k ∧ Ext w1 wr ∧ ∃ acc : List UseI, acc.length ≤ k ∧ acc = (A.take k).filter (much most) ∧ wr.ownsRow w1.heap.size 55 3 v acc.length (Uses acc).flatten) (fun _ i _ => A.length - (intOf i).toNat)
  case atStart => exact ⟨0, by omega, rfl, Ext.refl _, [], Nat.le_refl _, rfl, ⟨rfl, .inl ⟨rfl, rfl⟩⟩⟩
  case round =>
    obtain ⟨k, hk, rfl, hE, acc, hacc, hrest, hown⟩ := hrel
    by_cases hlt : k < A.length
    · obtain ⟨b, o, rfl, lb, hcell⟩ := k3 (by omega)
      obtain ⟨c0, c1, c2⟩ := hcell k hlt
      have e0 := hE.cell c0
      have e1 := hE.cell c1
      have e2 := hE.cell c2
      have lb1 := Nat.lt_of_lt_of_le lb hE.size
      have HS := hid (filter_succ (much most) A k hlt)
      have hal := hsh.1
      have HE := hid hE
      have HOwn := hid hown
      have HRest := hid hrest
      clear hcell k3 hE hown hrest c0 c1 c2 hsh
      generalize A[k] = x at e0 e1 e2 HS
      by_cases hm : most < x.bytes
      · have q1 : decide (most < x.bytes) = true := decide_eq_true hm
        have HS' : Hid ((A.take (k + 1)).filter (much most) = acc ++ [x]) := by
          have := HS.out
          rw [show much most x = true from q1, if_pos rfl, ← HRest.out] at this
          exact this
        have O4 : Hid (((wr.alloc (.cells #[.string x.pre, .int .i64 x.files, .int .i64 x.bytes] 55)).alloc (.cells #[.string x.pre, .int .i64 x.files, .int .i64 x.bytes] 55)).ownsRow w1.heap.size 55 3 u5 acc.length (Uses acc).flatten) := ownsRow_ext HOwn.out ((Ext.alloc _ _).trans (Ext.alloc _ _))
        have HE4 := hid ((HE.out.alloc' (.cells #[.string x.pre, .int .i64 x.files, .int .i64 x.bytes] 55)).alloc' (.cells #[.string x.pre, .int .i64 x.files, .int .i64 x.bytes] 55))
        have hbs := HE4.out.size
        have hnw : ((wr.alloc (.cells #[.string x.pre, .int .i64 x.files, .int .i64 x.bytes] 55)).alloc (.cells #[.string x.pre, .int .i64 x.files, .int .i64 x.bytes] 55)).heap[wr.heap.size + 1]? = some (.cells #[.string x.pre, .int .i64 x.files, .int .i64 x.bytes] 55 (0, 0)) := by
          have := heap_alloc_new (wr.alloc (.cells #[.string x.pre, .int .i64 x.files, .int .i64 x.bytes] 55)) (.cells #[.string x.pre, .int .i64 x.files, .int .i64 x.bytes] 55)
          simpa only [World.size_alloc] using this
        have Hnw := hid hnw
        clear hm HS hnw
        go_wp2_with (at_builtin; refine wpList_append_lies _ rfl (.tmp 23) (.tmp 25) _ rfl w1.heap.size 55 i0 _ 3 32 Try.underlying58 hi0 hz0 hz1 hz2 rfl (by omega) u5 acc.length (Uses acc).flatten rfl O4.out ⟨wr.heap.size + 1, 0, none⟩ 1 1 [.string x.pre, .int .i64 x.files, .int .i64 x.bytes] rfl rfl (World.news_of_block (cs := #[.string x.pre, .int .i64 x.files, .int .i64 x.bytes]) (t := 55) (fr := (0, 0)) Hnw.out) (by simp [Value.oneCell']) (by omega) (by unfold maxLen; omega) (by omega) hbs _ rfl ?_; intro g2 c2 w4 hown4 hgrow hat hlt4; have HB : Hid (Ext w1 w4) := HE4.out.grown hgrow hbs (fun q hq => (row_block O4.out q hq).1); have HO4 := hid hown4; clear hgrow hat hlt4 hown4 hbs)
        go_roundw
        case rel => exact ⟨k + 1, by omega, by go_num, HB.out, acc ++ [x], by simp; omega, HS'.out.symm, by rw [uses_append, List.length_append]; exact HO4.out⟩
        case measure => simp [intOf]; omega
      · have q1 : decide (most < x.bytes) = false := decide_eq_false hm
        have HS' : Hid ((A.take (k + 1)).filter (much most) = acc) := by
          have := HS.out
          rw [show much most x = false from q1, if_neg (by simp), ← HRest.out, List.append_nil] at this
          exact this
        clear hm HS
        go_wp2_with fail
        go_roundw
        case rel => exact ⟨k + 1, by omega, by go_num, HE.out.alloc' _, acc, by omega, HS'.out.symm, ownsRow_ext HOwn.out (Ext.alloc _ _)⟩
        case measure => simp [intOf]; omega
    · obtain rfl : k = A.length := by omega
      rw [List.take_length] at hrest
      have hHl : acc.length ≤ 200000 := by have := hsh.1; omega
      have hHs : ∀ u ∈ acc, u.pre.size ≤ 1000 := fun u hu => by rw [hrest] at hu; exact hsh.2 u (List.mem_filter.1 hu).1
      have hHS := sl_of_row (uses_sz acc) (by rw [show (Uses acc).length = acc.length by simp [Uses]]; exact hown)
      have HS0 := hid hHS
      obtain ⟨D, dd, e5, m1, m2, m3⟩ := sl_use hHS
      subst e5
      have HE0 := hid (HX1.out.trans hE)
      have HQe := hid hrest
      clear hHS hown hE k3 hsh hrest
      unfold maxLen at m2
      go_wp2_with fail
      generalize wr = w2 at *
      go_loopw [6, 30] (fun v i wr => ∃ k : Nat, k ≤ acc.length ∧ i = .int .i64 k ∧ Ext w2 wr ∧ ∃ out : List UseI, out.length ≤ k ∧ out = (acc.take k).filter (fun u => !acc.any (belowK u)) ∧ wr.ownsRow w2.heap.size 55 3 v out.length (Uses out).flatten) (fun _ i _ => acc.length - (intOf i).toNat)
      case atStart => exact ⟨0, by omega, rfl, Ext.refl _, [], Nat.le_refl _, rfl, ⟨rfl, .inl ⟨rfl, rfl⟩⟩⟩
      case round =>
        obtain ⟨k, hk, rfl, hE, out, hout, hrest, hown⟩ := hrel
        by_cases hlt : k < acc.length
        · obtain ⟨b, o, rfl, lb, hcell⟩ := m3 (by omega)
          obtain ⟨c0, c1, c2⟩ := hcell k hlt
          have e0 := hE.cell c0
          have e1 := hE.cell c1
          have e2 := hE.cell c2
          have lb1 := Nat.lt_of_lt_of_le lb hE.size
          have HS := hid (filter_succ (fun u => !acc.any (belowK u)) acc k hlt)
          have hus := hHs _ (List.getElem_mem hlt)
          have HC : Hid (∀ W, Ext (wr.alloc (.cells #[.string acc[k].pre, .int .i64 acc[k].files, .int .i64 acc[k].bytes] 55)) W → Calls Try.prog 50 #[.slice (some ⟨b, o, none⟩) acc.length dd, .func (.func 49) #[] #[.pointer (some ⟨wr.heap.size, 0, none⟩)]] W (Ret (.bool (acc.any (belowK acc[k]))) W)) := fun W he =>
            containsf_c W _ acc 49 #[.pointer (some ⟨wr.heap.size, 0, none⟩)] (HS0.out.ext ((hE.alloc' _).trans he)) hHl (fun args W => run_callFunc Try.func49 (by kernel_rfl) (by kernel_rfl)) (belowK acc[k])
              (fun W' v hv he' => heavy1_c W' acc[k] v wr.heap.size (((Blk.new wr 55 _).ext he).ext he') hus (hHs v hv))
          have HE := hid hE
          have HOwn := hid hown
          have HRest := hid hrest
          clear hcell m3 hE hown hrest c0 c1 c2 hus
          generalize acc[k] = x at e0 e1 e2 HS HC
          cases hb : acc.any (belowK x) with
          | true =>
            rw [hb] at HC
            have HS' : Hid ((acc.take (k + 1)).filter (fun u => !acc.any (belowK u)) = out) := by
              have := HS.out
              rw [if_neg (by simp [hb]), ← HRest.out, List.append_nil] at this
              exact this
            clear HS
            go_wp2_with (go_at_call 50; refine (HC.out _ (Ext.refl _)).mono ?_; rintro e w3 ⟨rfl, hx⟩; have HX3 := hid hx; clear hx)
            go_roundw
            case rel => exact ⟨k + 1, by omega, by go_num, (HE.out.alloc' _).trans HX3.out, out, by omega, HS'.out.symm, ownsRow_ext HOwn.out ((Ext.alloc _ _).trans HX3.out)⟩
            case measure => simp [intOf]; omega
          | false =>
            rw [hb] at HC
            have HS' : Hid ((acc.take (k + 1)).filter (fun u => !acc.any (belowK u)) = out ++ [x]) := by
              have := HS.out
              rw [if_pos (by simp [hb]), ← HRest.out] at this
              exact this
            clear HS
            go_wp2_with (first
              | (go_at_call 50; refine (HC.out _ (Ext.refl _)).mono ?_; rintro e w3 ⟨rfl, hx⟩; have hbk := (Blk.new wr 55 #[.string x.pre, .int .i64 x.files, .int .i64 x.bytes]).ext hx; have y0 := hbk.cell (i := 0) (v := .string x.pre) rfl; have y1 := hbk.cell (i := 1) (v := .int .i64 x.files) rfl; have y2 := hbk.cell (i := 2) (v := .int .i64 x.bytes) rfl; have ly := hbk.lt; have HE4 := hid (((HE.out.alloc' _).trans hx).alloc' (.cells #[.string x.pre, .int .i64 x.files, .int .i64 x.bytes] 55)); have O4 := hid (ownsRow_ext HOwn.out (((Ext.alloc _ _).trans hx).trans (Ext.alloc _ (.cells #[.string x.pre, .int .i64 x.files, .int .i64 x.bytes] 55)))); have hbs := HE4.out.size; clear hx hbk)
              | (at_builtin; refine wpList_append_lies _ rfl (.tmp 39) (.tmp 41) _ rfl w2.heap.size 55 i0 _ 3 32 Try.underlying58 hi0 hz0 hz1 hz2 rfl (by omega) u6 out.length (Uses out).flatten rfl O4.out ⟨w3.heap.size, 0, none⟩ 1 1 [.string x.pre, .int .i64 x.files, .int .i64 x.bytes] rfl rfl (World.news_of_block (cs := #[.string x.pre, .int .i64 x.files, .int .i64 x.bytes]) (t := 55) (fr := (0, 0)) (heap_alloc_new w3 _)) (by simp [Value.oneCell']) (by omega) (by unfold maxLen; omega) (by omega) hbs _ rfl ?_; intro g2 cc2 w4 hown4 hgrow hat hlt4; have HB : Hid (Ext w2 w4) := HE4.out.grown hgrow hbs (fun q hq => (row_block O4.out q hq).1); have HO4 := hid hown4; clear hgrow hat hlt4 hown4 hbs))
            go_roundw
            case rel => exact ⟨k + 1, by omega, by go_num, HB.out, out ++ [x], by simp; omega, HS'.out.symm, by rw [uses_append, List.length_append]; exact HO4.out⟩
            case measure => simp [intOf]; omega
        · obtain rfl : k = acc.length := by omega
          rw [List.take_length] at hrest
          have HE := hid hE
          have HOwn := hid hown
          have HR := hid hrest
          clear hE hown m3 hrest
          go_wp2_with fail
          go_ret
          refine ⟨_, rfl, ?_, HE0.out.trans HE.out⟩
          rw [← HQe.out, ← HR.out]
          exact sl_of_row (uses_sz _) (by rw [show (Uses out).length = out.length by simp [Uses]]; exact HOwn.out)
end Go.Proofs.Ytfoafookodldfaa
