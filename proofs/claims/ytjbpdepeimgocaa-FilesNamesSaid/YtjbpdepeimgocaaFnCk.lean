/-
  files.alive: the best updates of all items that are not dead.
-/
import Derived.Test.YtjbpdepeimgocaaFnBk
import Derived.Test.YtjbpdepeimgocaaUpW
namespace Go.Proofs.Ytjbpdepeimgocaa
set_option linter.unusedSimpArgs false
set_option linter.unusedVariables false
open Go.RowKit Go.Sort

def liveB (u : UpdI) : Bool := !u.dead
def aliveK (l : List UpdI) : List UpdI := viewK liveB l
theorem bestV_some (u : UpdI) : bestV (some u) = .tuple #[.agg #[.int .i64 u.item.by_, .int .i64 u.item.n, .int .i64 u.st.v.by_, .int .i64 u.st.v.n, .int .i64 u.st.time, .string u.p, .string u.d, .bool u.dead], .bool true] := rfl
set_option maxRecDepth 100000 in
set_option maxHeartbeats 4000000 in
theorem alive_c (w : World) (v : Value) (l : List UpdI) (h : Sl w 8 v (l.map UpdI.cells)) (hl : l.length ≤ 1000) : Calls Try.prog 13 #[v] w (RetQ (fun v' w' => RowAt UpdI.cells 8 (aliveK l) v' w' ∧ ∀ b o n c, v' = .slice (some ⟨b, o, none⟩) n c → w.heap.size ≤ b) w) := by
  have HS0 := hid h
  obtain ⟨A, c, rfl, h1, h2, h3⟩ := sl_get h
  unfold maxLen at h2
  clear h
  go_enter Try.func13, Try.ntmps13
  go_wp2_with fail
  go_loopw [3, 13] (fun v i wr => ∃ k : Nat, k ≤ l.length ∧ i = .int .i64 k ∧ Ext w wr ∧ (k = 0 → v = .slice none 0 0) ∧ wr.ownsRow w.heap.size 26 2 v ((l.take k).map (·.item)).length (((l.take k).map (·.item)).map Ver.cells).flatten) (fun _ i _ => l.length - (intOf i).toNat)
  case atStart => exact ⟨0, by omega, rfl, Ext.refl _, (fun _ => rfl), ownsRow_nil _ _ _ _⟩
  case round =>
    obtain ⟨k, hk, rfl, hE, hz, hO⟩ := hrel
    have HE := hid hE
    have HO := hid hO
    have HZ := hid hz
    by_cases hlt : k < l.length
    · obtain ⟨b', o, rfl, lb, hcell⟩ := h3 (by omega)
      have c0 := hE.cell (hcell k hlt 0 _ rfl)
      have c1 := hE.cell (hcell k hlt 1 _ rfl)
      have c2 := hE.cell (hcell k hlt 2 _ rfl)
      have c3 := hE.cell (hcell k hlt 3 _ rfl)
      have c4 := hE.cell (hcell k hlt 4 _ rfl)
      have c5 := hE.cell (hcell k hlt 5 _ rfl)
      have c6 := hE.cell (hcell k hlt 6 _ rfl)
      have c7 := hE.cell (hcell k hlt 7 _ rfl)
      rw [Nat.add_zero] at c0
      have lbr := Nat.lt_of_lt_of_le lb hE.size
      have HS : Hid ((l.take (k + 1)).map (·.item) = (l.take k).map (·.item) ++ [l[k].item]) := by unfold Hid; rw [List.take_succ_eq_append_getElem hlt, List.map_append]; rfl
      have hln : ((l.take k).map (·.item)).length ≤ 1000 := by rw [List.length_map, List.length_take]; omega
      clear hcell h3 hE hz hO
      generalize l[k] = x at c0 c1 c2 c3 c4 c5 c6 c7 HS
      generalize (l.take k).map (·.item) = acc at HO HS hln
      have hE1 := Ext.alloc wr (.cells #[.int .i64 x.item.by_, .int .i64 x.item.n, .int .i64 x.st.v.by_, .int .i64 x.st.v.n, .int .i64 x.st.time, .string x.p, .string x.d, .bool x.dead] 30)
      obtain ⟨v', w6, hrun6, ho6, hk6, _⟩ := app_one (P := Try.prog) ver_elem ver_coded (ownsRow_ext HO.out hE1) (Nat.le_trans HE.out.size hE1.size) x.item (by omega) (by omega)
      simp only [Ver.cells, World.size_alloc] at hrun6
      have HE6 := hid (hk6.toExt (HE.out.trans hE1) (fun q hq => (row_block HO.out q hq).1))
      have HO6 := hid ho6
      clear ho6 hk6 hE1
      go_wp2_with (at_builtin; refine wpList_app rfl (.tmp 17) (.tmp 20) _ _ rfl rfl rfl hrun6 ?_)
      go_roundw
      case rel => exact ⟨k + 1, by omega, by go_num, HE6.out, (fun h => by omega), by rw [HS.out]; exact HO6.out⟩
      case measure => simp [intOf]; omega
    · obtain rfl : k = l.length := by omega
      rw [List.take_length] at hO
      have hrow := RowAt.of_row ver_coded hO (fun h0 => hz (by rwa [List.length_map] at h0))
      have HV := hid (vsort_c wr _ _ hrow.1 (by rw [List.length_map]; omega))
      obtain ⟨its, hits⟩ : ∃ its, its = itemsK l := ⟨_, rfl⟩
      have HIts : Hid (∀ it ∈ its, ∃ u, bestK l it = some u) := fun it hit => bestK_some ((mem_itemsK l it).1 (by rwa [← hits]))
      have hle := itemsK_len l
      have HAll : Hid (aliveK l = seenK liveB l its) := by rw [hits]; rfl
      rw [← hits] at hle
      have hits' : setL Ver.lt (l.map (·.item)) = its := hits.symm
      rw [hits'] at HV
      have HEw := hid hE
      clear hE h3 hz hO hrow HO HZ HE hits hits'
      go_wp2_with (go_at_call 24; refine (HV.out).mono ?_; rintro e w2 ⟨v2, rfl, hv2, hx2⟩; have HX2 := hid (HEw.out.trans hx2); obtain ⟨A2, c2, rfl, p1, p2, p3⟩ := sl_get hv2.1; clear hv2 hx2 HV)
      unfold maxLen at p2
      go_loopw [6, 26] (fun v i WQ => ∃ (k : Nat) (ov : Value), ov = v ∧ k ≤ its.length ∧ i = .int .i64 k ∧ Ext w2 WQ ∧ ((seenK liveB l (its.take k)).length = 0 → v = .slice none 0 0) ∧ WQ.ownsRow w2.heap.size 30 8 v (seenK liveB l (its.take k)).length ((seenK liveB l (its.take k)).map UpdI.cells).flatten) (fun _ i _ => its.length - (intOf i).toNat)
      case atStart => exact ⟨0, _, rfl, by omega, rfl, Ext.refl _, (fun _ => rfl), ownsRow_nil _ _ _ _⟩
      case round =>
        obtain ⟨k, v, rfl, hk, rfl, hE3, hz, hO⟩ := hrel
        have HE3 := hid hE3
        have HO := hid hO
        have HZ := hid hz
        by_cases hlt : k < its.length
        · obtain ⟨b', o, rfl, lb, hcell⟩ := p3 (by omega)
          have c0 := hE3.cell (hcell k hlt 0 _ rfl)
          have c1 := hE3.cell (hcell k hlt 1 _ rfl)
          rw [Nat.add_zero] at c0
          have lbr := Nat.lt_of_lt_of_le lb hE3.size
          obtain ⟨u, hu⟩ := HIts.out _ (List.getElem_mem hlt)
          have HB := fun W (hW : Ext wr W) => hid (ubest_c W _ l its[k] (HS0.out.ext (HX2.out.trans (hE3.trans hW))) (by omega))
          rw [hu, bestV_some] at HB
          have HY := fun hp => hid (seenK_yes (p := liveB) hlt hu hp)
          have HN := fun hp => hid (seenK_no (p := liveB) hlt hu hp)
          have hsl := seenK_len liveB l (its.take k)
          rw [List.length_take] at hsl
          clear hE3 hcell p3 hz hO hu
          generalize its[k] = it at c0 c1 HB
          generalize seenK liveB l (its.take k) = acc at HO HZ HY HN hsl
          unfold Ver.val at HB
          cases hd : u.dead with
          | true =>
            have HS := HN (by unfold liveB; rw [hd]; rfl)
            rw [hd] at HB
            clear HN HY hd
            go_wp2_with (go_at_call 25; refine ((HB _ (Ext.alloc _ _)).out).mono ?_; rintro e w4 ⟨rfl, hx4⟩; have HX4 := hid ((Ext.alloc _ _).trans hx4); clear hx4 HB)
            go_roundw
            case rel => exact ⟨k + 1, _, rfl, by omega, by go_num, HE3.out.trans (HX4.out.alloc' _), (by rw [HS.out]; exact HZ.out), by rw [HS.out]; exact ownsRow_ext HO.out (HX4.out.alloc' _)⟩
            case measure => simp [intOf]; omega
          | false =>
            have HS := HY (by unfold liveB; rw [hd]; rfl)
            rw [hd] at HB
            obtain ⟨u', hu'⟩ : ∃ u', u' = u := ⟨_, rfl⟩
            have hcu : u.cells = [.int .i64 u.item.by_, .int .i64 u.item.n, .int .i64 u.st.v.by_, .int .i64 u.st.v.n, .int .i64 u.st.time, .string u.p, .string u.d, .bool false] := by unfold UpdI.cells; rw [hd]
            have HCu := hid hcu
            clear HN HY hd hu' hcu
            go_wp2_with (first
              | (at_builtin; have hE5 := HX4.out.alloc' (.cells #[.int .i64 u.item.by_, .int .i64 u.item.n, .int .i64 u.st.v.by_, .int .i64 u.st.v.n, .int .i64 u.st.time, .string u.p, .string u.d, .bool false] 30); obtain ⟨v', w6, hrun6, ho6, hk6, _⟩ := app_one (P := Try.prog) upd_elem upd_coded (ownsRow_ext HO.out hE5) (Nat.le_trans HE3.out.size hE5.size) u (by omega) (by omega); simp only [HCu.out, World.size_alloc] at hrun6; have HE6 := hid (hk6.toExt (HE3.out.trans hE5) (fun q hq => (row_block HO.out q hq).1)); have HO6 := hid ho6; clear ho6 hk6 hE5; refine wpList_app rfl (.tmp 39) (.tmp 41) _ _ rfl rfl rfl hrun6 ?_)
              | (go_at_call 25; refine ((HB _ (Ext.alloc _ _)).out).mono ?_; rintro e w4 ⟨rfl, hx4⟩; have HX4 := hid ((Ext.alloc _ _).trans hx4); clear hx4 HB))
            go_roundw
            case rel => exact ⟨k + 1, _, rfl, by omega, by go_num, HE6.out, (fun h => by rw [HS.out] at h; simp at h), by rw [HS.out]; exact HO6.out⟩
            case measure => simp [intOf]; omega
        · obtain rfl : k = its.length := by omega
          rw [List.take_length] at hO hz
          have hrow := RowAt.of_row upd_coded hO hz
          have HR := hid hrow
          have HBl : Hid (∀ b o n c, v = .slice (some ⟨b, o, none⟩) n c → w.heap.size ≤ b) := fun b o n c e => by
            subst e
            exact Nat.le_trans HX2.out.size (row_block hO b rfl).1
          clear hE3 p3 hz hO hrow HO HZ
          go_wp2_with fail
          go_ret
          exact ⟨_, rfl, ⟨by rw [HAll.out]; exact HR.out, HBl.out⟩, HX2.out.trans HE3.out⟩
end Go.Proofs.Ytjbpdepeimgocaa
