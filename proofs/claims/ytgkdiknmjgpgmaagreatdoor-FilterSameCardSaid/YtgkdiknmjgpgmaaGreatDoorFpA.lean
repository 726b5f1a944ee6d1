/-
  filter.prefixes.
-/
import Derived.Test.YtgkdiknmjgpgmaaGreatDoorSrS
import Derived.Test.YtgkdiknmjgpgmaaGreatDoorCpS
import Derived.Test.YtgkdiknmjgpgmaaGreatDoorFmA
namespace Go.Proofs.YtgkdiknmjgpgmaaGreatDoor
set_option linter.unusedSimpArgs false
set_option linter.unusedVariables false
open Go.RowKit Go.Sort

/-- All prefixes, rising, each once. -/
def preS (f : List ClauseI) : List ByteArray := setL blt (f.map (·.pre))
theorem mem_preS (f : List ClauseI) (p : ByteArray) : p ∈ preS f ↔ ∃ c ∈ f, c.pre = p := by
  unfold preS
  rw [mem_setL blt_strict, List.mem_map]
theorem preS_len (f : List ClauseI) : (preS f).length ≤ f.length := by
  have := setL_length blt_strict (f.map (·.pre))
  unfold preS
  rwa [List.length_map] at this
set_option maxRecDepth 100000 in
set_option maxHeartbeats 4000000 in
theorem prefixes_c (w : World) (v : Value) (l : List ClauseI) (h : Sl w 3 v (l.map ClauseI.cells)) (hl : l.length ≤ 5000) : Calls Tryz.prog 19 #[v] w (RetQ (RowAt strC 1 (preS l)) w) := by
  obtain ⟨A, c, rfl, h1, h2, h3⟩ := sl_get h
  unfold maxLen at h2
  clear h
  go_enter Tryz.func19, Tryz.ntmps19
  go_wp2_with fail
  go_loopw [3, 8] (fun v i wr => ∃ (k : Nat) (ov : Value), ov = v ∧ k ≤ l.length ∧ i = .int .i64 k ∧ Ext w wr ∧ (k = 0 → v = .slice none 0 0) ∧ wr.ownsRow w.heap.size 9 1 v ((l.take k).map (·.pre)).length (((l.take k).map (·.pre)).map strC).flatten) (fun _ i _ => l.length - (intOf i).toNat)
  case atStart => exact ⟨0, _, rfl, by omega, rfl, Ext.refl _, (fun _ => rfl), ownsRow_nil _ _ _ _⟩
  case round =>
    obtain ⟨k, v, rfl, hk, rfl, hE, hz, hO⟩ := hrel
    have HE := hid hE
    have HO := hid hO
    have HZ := hid hz
    by_cases hlt : k < l.length
    · obtain ⟨b', o, rfl, lb, hcell⟩ := h3 (by omega)
      have c0 := hE.cell (hcell k hlt 0 _ rfl)
      have c1 := hE.cell (hcell k hlt 1 _ rfl)
      have c2 := hE.cell (hcell k hlt 2 _ rfl)
      rw [Nat.add_zero] at c0
      have lbr := Nat.lt_of_lt_of_le lb hE.size
      have HS : Hid ((l.take (k + 1)).map (·.pre) = (l.take k).map (·.pre) ++ [l[k].pre]) := by unfold Hid; rw [List.take_succ_eq_append_getElem hlt, List.map_append]; rfl
      have hln : ((l.take k).map (·.pre)).length ≤ 5000 := by rw [List.length_map, List.length_take]; omega
      clear hcell h3 hE hz hO
      generalize l[k] = x at c0 c1 c2 HS
      generalize (l.take k).map (·.pre) = acc at HO HS hln
      have hE1 := Ext.alloc wr (.cells #[.string x.pre, .int .i64 x.lo, .int .i64 x.hi] 34)
      obtain ⟨v', w6, hrun6, ho6, hk6, _⟩ := app_one (P := Tryz.prog) str_elem str_coded (ownsRow_ext HO.out hE1) (Nat.le_trans HE.out.size hE1.size) x.pre (by omega) (by omega)
      simp only [strC, World.size_alloc] at hrun6
      have HE6 := hid (hk6.toExt (HE.out.trans hE1) (fun q hq => (row_block HO.out q hq).1))
      have HO6 := hid ho6
      clear ho6 hk6 hE1
      go_wp2_with (at_builtin; refine wpList_app rfl (.tmp 12) (.tmp 15) _ _ rfl rfl rfl hrun6 ?_)
      go_roundw
      case rel => exact ⟨k + 1, _, rfl, by omega, by go_num, HE6.out, (fun h => by omega), by rw [HS.out]; exact HO6.out⟩
      case measure => simp [intOf]; omega
    · obtain rfl : k = l.length := by omega
      rw [List.take_length] at hO
      have hln : (l.map (·.pre)).length ≤ 1000000 := by rw [List.length_map]; omega
      have HN : Hid ((l.map (·.pre)).length = 0 → v = .slice none 0 0) := fun h0 => hz (by rwa [List.length_map] at h0)
      have HB : Hid (∀ q, v.ownBlock = some q → w.heap.size ≤ q) := fun q hq => (row_block hO q hq).1
      have HEw := hid hE
      have HO := hid hO
      have HAll : Hid (preS l = setL blt (l.map (·.pre))) := rfl
      have HL := hid hln
      clear hE h3 hz hO HZ HE hln
      go_wp2_with (first
        | (go_at_call 34; refine (sortS_c HO.out HL.out).mono ?_; rintro e w2 ⟨rfl, k2, l', hp, hs, ho2⟩; have K2 := hid k2; have P2 := hid hp; have S2 := hid hs; have O2 := hid ho2; clear k2 hp hs ho2)
        | (go_at_call 35; refine (CpS.compact_c _ _ _ _ (by rw [P2.out.length_eq]; exact HL.out) O2.out).mono ?_; rintro e w3 ⟨v3, rfl, k3, ho3, _, hn3⟩; have K3 := hid k3; have O3 := hid ho3; have N3 := hid hn3; clear k3 ho3 hn3))
      go_ret
      have e : Lib.compact l' = setL blt (l.map (·.pre)) := compact_sorted blt_strict P2.out S2.out
      rw [e] at O3
      rw [HAll.out]
      refine ⟨_, rfl, RowAt.of_row str_coded O3.out fun h0 => N3.out ?_, (K3.out.toExt (K2.out.toExt HEw.out HB.out) HB.out)⟩
      have h00 : (l.map (·.pre)).length = 0 := by
        have h0' : setL blt (l.map (·.pre)) = [] := List.eq_nil_of_length_eq_zero h0
        rcases hl0 : l.map (·.pre) with _ | ⟨x, t⟩
        · rw [hl0]; rfl
        · have := (mem_setL blt_strict (l.map (·.pre)) x).2 (by rw [hl0]; simp)
          rw [h0'] at this
          cases this
      exact HN.out h00
end Go.Proofs.YtgkdiknmjgpgmaaGreatDoor
