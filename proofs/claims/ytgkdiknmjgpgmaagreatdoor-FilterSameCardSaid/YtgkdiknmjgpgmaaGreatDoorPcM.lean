/-
  Package path: Names, Check, Join at every text.
-/
import Derived.Test.YtgkdiknmjgpgmaaGreatDoorPcL
namespace Go.Proofs.YtgkdiknmjgpgmaaGreatDoor.Pa
open Go.RowKit

set_option maxRecDepth 100000 in
set_option maxHeartbeats 1000000 in
theorem names1_any (w : World) (q b : Nat) (l : List ByteArray) (hq : w.cell? ⟨q, 0, none⟩ = some (.slice (some ⟨b, 0, none⟩) l.length l.length)) (hlq : q < w.heap.size) (lb0 : b < w.heap.size) (hc : ∀ k (h : k < l.length), w.cell? ⟨b, k, none⟩ = some (.string l[k])) (hl : l.length ≤ 2000) (ha : ∀ x ∈ l, x.size ≤ 100000) :
    Calls Tryz.prog 77 #[.pointer (some ⟨q, 0, none⟩)] w (Ret (.bool (l.all nameK && decide (l.length ≤ 6))) w) := by
  go_enter Tryz.func77, Tryz.ntmps77
  go_wp2_with fail
  go_loopw [6] (fun i wr => ∃ k : Nat, k ≤ l.length ∧ i = .int .i64 k ∧ Ext w wr ∧ (l.take k).all nameK = true) (fun i _ => l.length - (intOf i).toNat)
  case atStart => exact ⟨0, by omega, rfl, Ext.refl _, rfl⟩
  case round =>
    obtain ⟨k, hk, rfl, hE, hall⟩ := hrel
    by_cases hlt : k < l.length
    · have c0 := hE.cell (hc k hlt)
      have lb1 := Nat.lt_of_lt_of_le lb0 hE.size
      have a2 := ha _ (List.getElem_mem hlt)
      have HN : Hid (∀ W, Calls Tryz.prog 78 #[.string l[k]] W (Ret (.bool (nameK l[k])) W)) := fun W => name_any _ W a2
      have HS : Hid ((l.take (k + 1)).all nameK = nameK l[k]) := by unfold Hid; rw [List.take_succ_eq_append_getElem hlt, List.all_append, hall]; simp
      have HB : Hid (nameK l[k] = false → l.all nameK = false) := fun h => by rw [List.all_eq_false]; exact ⟨_, List.getElem_mem hlt, by rw [h]; simp⟩
      have HE := hid hE
      clear hc ha hE hall a2
      generalize l[k] = t at c0 HN HS HB
      cases hn : nameK t with
      | true =>
        rw [hn] at HN
        go_wp2_with (go_at_call 78; refine (HN.out _).mono ?_; rintro e w' ⟨rfl, hx⟩)
        go_roundw
        case rel => exact ⟨k + 1, by omega, by go_num, HE.out.trans hx, by rw [HS.out, hn]⟩
        case measure => simp [intOf]; omega
      | false =>
        rw [hn] at HN
        go_wp2_with (go_at_call 78; refine (HN.out _).mono ?_; rintro e w' ⟨rfl, hx⟩)
        go_ret
        exact ⟨by rw [HB.out hn]; rfl, HE.out.trans hx⟩
    · obtain rfl : k = l.length := by omega
      rw [List.take_length] at hall
      have cq := hE.cell hq
      have lq := Nat.lt_of_lt_of_le hlq hE.size
      have HE := hid hE
      have HA := hid hall
      clear hE hc ha hall
      go_wp2_with fail
      go_ret
      refine ⟨?_, HE.out⟩
      rw [HA.out, Bool.true_and]
      show Ending.returned (.bool (decide ((l.length : Int) ≤ 6))) = _
      rw [show decide ((l.length : Int) ≤ 6) = decide (l.length ≤ 6) from decide_eq_decide.2 (by omega)]

def pathNo (s : ByteArray) : Int := if rightK s then 0 else 13
def pathNames (s : ByteArray) : List ByteArray := if rightK s then spB s else []
set_option maxRecDepth 100000 in
set_option maxHeartbeats 1000000 in
theorem names_c (w : World) (s : ByteArray) (m : Int) (hm : w.cell? ⟨0, 0, none⟩ = some (.int .i64 m)) (hs : s.size ≤ 1000) :
    Calls Tryz.prog 60 #[.string s] w (fun e w' => ∃ v, e = .returned (.tuple #[v, .int .i64 (pathNo s)]) ∧ Sl w' 1 v (Strs (pathNames s)) ∧ Ext w w') := by
  unfold pathNo pathNames
  by_cases h40 : s.size ≤ 40
  · have hR : rightK s = ((spB s).all nameK && decide ((spB s).length ≤ 6)) := by
      unfold rightK
      rw [decide_eq_true h40, Bool.and_true]
    rw [hR]
    have HS := hid (Tryz.strings_Split s ⟨#[47]⟩ m w (by omega) hm (by rw [show (⟨#[47]⟩ : ByteArray).size = 1 from rfl]; omega))
    rw [splitB_spB, countB_spB] at HS
    have hl1 := spB_length s
    have ha := spB_parts s
    generalize spB s = l at *
    have HB : Hid (Blk (w.alloc (.cells (l.map Value.string).toArray 9)) w.heap.size 9 (l.map Value.string).toArray) := Blk.new _ _ _
    have H1 : Hid (∀ W, Ext ((w.alloc (.cells (l.map Value.string).toArray 9)).alloc (.cells #[.slice (some ⟨w.heap.size, 0, none⟩) l.length l.length] 38)) W → Calls Tryz.prog 77 #[.pointer (some ⟨w.heap.size + 1, 0, none⟩)] W (Ret (.bool (l.all nameK && decide (l.length ≤ 6))) W)) := fun W he => by
      have hb := (HB.out.alloc (.cells #[.slice (some ⟨w.heap.size, 0, none⟩) l.length l.length] 38)).ext he
      have hq := (Blk.new (w.alloc (.cells (l.map Value.string).toArray 9)) 38 #[.slice (some ⟨w.heap.size, 0, none⟩) l.length l.length]).ext he
      simp only [World.size_alloc] at hq
      exact names1_any W (w.heap.size + 1) w.heap.size l (hq.cell rfl) hq.lt hb.lt (fun k h => hb.cell (by simp [h])) (by omega) (fun x hx => by have := ha x hx; omega)
    have hs40 : decide ((40 : Int) < (s.size : Int)) = false := by simp; omega
    clear hR h40 ha hm
    have hl2 : l.length ≤ 1001 := by omega
    clear hl1
    cases hok : (l.all nameK && decide (l.length ≤ 6)) with
    | true =>
      rw [hok] at H1
      rw [if_pos rfl, if_pos rfl]
      clear hok
      go_enter Tryz.func60, Tryz.ntmps60
      go_wp2_with (go_at_call 76; refine (HS.out).mono ?_; rintro e w' ⟨rfl, rfl⟩)
      refine (H1.out _ (Ext.refl _)).mono ?_
      rintro e w' ⟨rfl, hx⟩
      have HX := hid (((Ext.alloc w (.cells (l.map Value.string).toArray 9)).trans (Ext.alloc _ _)).trans hx)
      have hq := (Blk.new (w.alloc (.cells (l.map Value.string).toArray 9)) 38 #[.slice (some ⟨w.heap.size, 0, none⟩) l.length l.length]).ext hx
      simp only [World.size_alloc] at hq
      have c0 := hq.cell (i := 0) (v := .slice (some ⟨w.heap.size, 0, none⟩) l.length l.length) rfl
      have lq := hq.lt
      have hb := (HB.out.alloc (.cells #[.slice (some ⟨w.heap.size, 0, none⟩) l.length l.length] 38)).ext hx
      have HSl : Hid (Sl w' 1 (.slice (some ⟨w.heap.size, 0, none⟩) l.length l.length) (Strs l)) := Sl.of_flat hb ⟨[], by rw [strs_flat, List.append_nil]⟩ (by simp [Strs]) (by simp [Strs]) (Nat.le_refl _) (by unfold maxLen; omega)
      clear hq hb hx
      go_wp2_with fail
      go_ret2
      exact ⟨_, rfl, HSl.out, HX.out⟩
    | false =>
      rw [hok] at H1
      rw [if_neg (by simp), if_neg (by simp)]
      clear hok
      go_enter Tryz.func60, Tryz.ntmps60
      go_wp2_with (go_at_call 76; refine (HS.out).mono ?_; rintro e w' ⟨rfl, rfl⟩)
      refine (H1.out _ (Ext.refl _)).mono ?_
      rintro e w' ⟨rfl, hx⟩
      have HX := hid (((Ext.alloc w (.cells (l.map Value.string).toArray 9)).trans (Ext.alloc _ _)).trans hx)
      clear hx
      go_wp2_with fail
      go_ret2
      exact ⟨_, rfl, Sl.nil _ 1, HX.out⟩
  · have hR : rightK s = false := by
      unfold rightK
      rw [decide_eq_false h40]; simp
    rw [hR, if_neg (by simp), if_neg (by simp)]
    have hs40 : decide ((40 : Int) < (s.size : Int)) = true := by simp; omega
    clear hR h40
    go_enter Tryz.func60, Tryz.ntmps60
    go_wp2_with fail
    go_ret2
    exact ⟨_, rfl, Sl.nil _ 1, Ext.refl _⟩
set_option maxRecDepth 100000 in
set_option maxHeartbeats 1000000 in
theorem check_c (w : World) (s : ByteArray) (m : Int) (hm : w.cell? ⟨0, 0, none⟩ = some (.int .i64 m)) (hs : s.size ≤ 1000) : Calls Tryz.prog 47 #[.string s] w (Ret (.int .i64 (pathNo s)) w) := by
  have HN := hid (names_c w s m hm hs)
  clear hm
  generalize pathNo s = z at *
  go_enter Tryz.func47, Tryz.ntmps47
  go_wp2_with (go_at_call 60; refine (HN.out).mono ?_; rintro e w' ⟨v1, rfl, hv, hx⟩; have HX := hid hx; clear hx hv)
  go_ret
  exact ⟨rfl, HX.out⟩

end Go.Proofs.YtgkdiknmjgpgmaaGreatDoor.Pa
