/-
  Package path: Names, Check, Join at every text.
-/
import Derived.Test.YtfoafookodldfaaDoorPaL
import Derived.Test.YtfoafookodldfaaDoorShelf2
namespace Go.Proofs.YtfoafookodldfaaDoor
set_option linter.unusedSimpArgs false
set_option linter.unusedVariables false
open Go.RowKit

set_option maxRecDepth 100000 in
set_option maxHeartbeats 1000000 in
theorem names1_any (w : World) (q b : Nat) (l : List ByteArray) (hq : w.cell? ⟨q, 0, none⟩ = some (.slice (some ⟨b, 0, none⟩) l.length l.length)) (hlq : q < w.heap.size) (lb0 : b < w.heap.size) (hc : ∀ k (h : k < l.length), w.cell? ⟨b, k, none⟩ = some (.string l[k])) (hl : l.length ≤ 2000) (ha : ∀ x ∈ l, x.size ≤ 100000) :
    Calls Tryd.prog 22 #[.pointer (some ⟨q, 0, none⟩)] w (Ret (.bool (l.all nameK && decide (l.length ≤ 6))) w) := by
  go_enter Tryd.func22, Tryd.ntmps22
  go_wp2_with fail
  go_loopw [6] (fun i wr => ∃ k : Nat, k ≤ l.length ∧ i = .int .i64 k ∧ Ext w wr ∧ (l.take k).all nameK = true) (fun i _ => l.length - (intOf i).toNat)
  case atStart => exact ⟨0, by omega, rfl, Ext.refl _, rfl⟩
  case round =>
    obtain ⟨k, hk, rfl, hE, hall⟩ := hrel
    by_cases hlt : k < l.length
    · have c0 := hE.cell (hc k hlt)
      have lb1 := Nat.lt_of_lt_of_le lb0 hE.size
      have a2 := ha _ (List.getElem_mem hlt)
      have HN : Hid (∀ W, Calls Tryd.prog 23 #[.string l[k]] W (Ret (.bool (nameK l[k])) W)) := fun W => name_any _ W a2
      have HS : Hid ((l.take (k + 1)).all nameK = nameK l[k]) := by unfold Hid; rw [List.take_succ_eq_append_getElem hlt, List.all_append, hall]; simp
      have HB : Hid (nameK l[k] = false → l.all nameK = false) := fun h => by rw [List.all_eq_false]; exact ⟨_, List.getElem_mem hlt, by rw [h]; simp⟩
      have HE := hid hE
      clear hc ha hE hall a2
      generalize l[k] = t at c0 HN HS HB
      cases hn : nameK t with
      | true =>
        rw [hn] at HN
        go_wp2_with (go_at_call 23; refine (HN.out _).mono ?_; rintro e w' ⟨rfl, hx⟩)
        go_roundw
        case rel => exact ⟨k + 1, by omega, by go_num, HE.out.trans hx, by rw [HS.out, hn]⟩
        case measure => simp [intOf]; omega
      | false =>
        rw [hn] at HN
        go_wp2_with (go_at_call 23; refine (HN.out _).mono ?_; rintro e w' ⟨rfl, hx⟩)
        go_ret
        exact ⟨by rw [HB.out hn]; rfl, HE.out.trans hx⟩
    · obtain rfl : k = l.length := by omega
      rw [List.take_length] at hall
      have cq := hE.cell hq
      have lq := Nat.lt_of_lt_of_le hlq hE.size
      have HE := hid hE
      have HA := hid hall
      clear hE hc ha hall
      go_wp2_with fail
      go_ret
      refine ⟨?_, HE.out⟩
      rw [HA.out, Bool.true_and]
      show Ending.returned (.bool (decide ((l.length : Int) ≤ 6))) = _
      rw [show decide ((l.length : Int) ≤ 6) = decide (l.length ≤ 6) from decide_eq_decide.2 (by omega)]

def pathNo (s : ByteArray) : Int := if rightK s then 0 else 13
def pathNames (s : ByteArray) : List ByteArray := if rightK s then spB s else []
set_option maxRecDepth 100000 in
set_option maxHeartbeats 1000000 in
theorem names_c (w : World) (s : ByteArray) (m : Int) (hm : w.cell? ⟨0, 0, none⟩ = some (.int .i64 m)) (hs : s.size ≤ 1000) :
    Calls Tryd.prog 13 #[.string s] w (fun e w' => ∃ v, e = .returned (.tuple #[v, .int .i64 (pathNo s)]) ∧ Sl w' 1 v (Strs (pathNames s)) ∧ Ext w w') := by
  unfold pathNo pathNames
  by_cases h40 : s.size ≤ 40
  · have hR : rightK s = ((spB s).all nameK && decide ((spB s).length ≤ 6)) := by
      unfold rightK
      rw [decide_eq_true h40, Bool.and_true]
    rw [hR]
    have HS := hid (Tryd.strings_Split s ⟨#[47]⟩ m w (by omega) hm (by rw [show (⟨#[47]⟩ : ByteArray).size = 1 from rfl]; omega))
    rw [splitB_spB, countB_spB] at HS
    have hl1 := spB_length s
    have ha := spB_parts s
    generalize spB s = l at *
    have HB : Hid (Blk (w.alloc (.cells (l.map Value.string).toArray 9)) w.heap.size 9 (l.map Value.string).toArray) := Blk.new _ _ _
    have H1 : Hid (∀ W, Ext ((w.alloc (.cells (l.map Value.string).toArray 9)).alloc (.cells #[.slice (some ⟨w.heap.size, 0, none⟩) l.length l.length] 30)) W → Calls Tryd.prog 22 #[.pointer (some ⟨w.heap.size + 1, 0, none⟩)] W (Ret (.bool (l.all nameK && decide (l.length ≤ 6))) W)) := fun W he => by
      have hb := (HB.out.alloc (.cells #[.slice (some ⟨w.heap.size, 0, none⟩) l.length l.length] 30)).ext he
      have hq := (Blk.new (w.alloc (.cells (l.map Value.string).toArray 9)) 30 #[.slice (some ⟨w.heap.size, 0, none⟩) l.length l.length]).ext he
      simp only [World.size_alloc] at hq
      exact names1_any W (w.heap.size + 1) w.heap.size l (hq.cell rfl) hq.lt hb.lt (fun k h => hb.cell (by simp [h])) (by omega) (fun x hx => by have := ha x hx; omega)
    have hs40 : decide ((40 : Int) < (s.size : Int)) = false := by simp; omega
    clear hR h40 ha hm
    have hl2 : l.length ≤ 1001 := by omega
    clear hl1
    cases hok : (l.all nameK && decide (l.length ≤ 6)) with
    | true =>
      rw [hok] at H1
      rw [if_pos rfl, if_pos rfl]
      clear hok
      go_enter Tryd.func13, Tryd.ntmps13
      go_wp2_with (go_at_call 21; refine (HS.out).mono ?_; rintro e w' ⟨rfl, rfl⟩)
      refine (H1.out _ (Ext.refl _)).mono ?_
      rintro e w' ⟨rfl, hx⟩
      have HX := hid (((Ext.alloc w (.cells (l.map Value.string).toArray 9)).trans (Ext.alloc _ _)).trans hx)
      have hq := (Blk.new (w.alloc (.cells (l.map Value.string).toArray 9)) 30 #[.slice (some ⟨w.heap.size, 0, none⟩) l.length l.length]).ext hx
      simp only [World.size_alloc] at hq
      have c0 := hq.cell (i := 0) (v := .slice (some ⟨w.heap.size, 0, none⟩) l.length l.length) rfl
      have lq := hq.lt
      have hb := (HB.out.alloc (.cells #[.slice (some ⟨w.heap.size, 0, none⟩) l.length l.length] 30)).ext hx
      have HSl : Hid (Sl w' 1 (.slice (some ⟨w.heap.size, 0, none⟩) l.length l.length) (Strs l)) := Sl.of_flat hb ⟨[], by rw [strs_flat, List.append_nil]⟩ (by simp [Strs]) (by simp [Strs]) (Nat.le_refl _) (by unfold maxLen; omega)
      clear hq hb hx
      go_wp2_with fail
      go_ret2
      exact ⟨_, rfl, HSl.out, HX.out⟩
    | false =>
      rw [hok] at H1
      rw [if_neg (by simp), if_neg (by simp)]
      clear hok
      go_enter Tryd.func13, Tryd.ntmps13
      go_wp2_with (go_at_call 21; refine (HS.out).mono ?_; rintro e w' ⟨rfl, rfl⟩)
      refine (H1.out _ (Ext.refl _)).mono ?_
      rintro e w' ⟨rfl, hx⟩
      have HX := hid (((Ext.alloc w (.cells (l.map Value.string).toArray 9)).trans (Ext.alloc _ _)).trans hx)
      clear hx
      go_wp2_with fail
      go_ret2
      exact ⟨_, rfl, Sl.nil _ 1, HX.out⟩
  · have hR : rightK s = false := by
      unfold rightK
      rw [decide_eq_false h40]; simp
    rw [hR, if_neg (by simp), if_neg (by simp)]
    have hs40 : decide ((40 : Int) < (s.size : Int)) = true := by simp; omega
    clear hR h40
    go_enter Tryd.func13, Tryd.ntmps13
    go_wp2_with fail
    go_ret2
    exact ⟨_, rfl, Sl.nil _ 1, Ext.refl _⟩
set_option maxRecDepth 100000 in
set_option maxHeartbeats 1000000 in
theorem check_c (w : World) (s : ByteArray) (m : Int) (hm : w.cell? ⟨0, 0, none⟩ = some (.int .i64 m)) (hs : s.size ≤ 1000) : Calls Tryd.prog 12 #[.string s] w (Ret (.int .i64 (pathNo s)) w) := by
  have HN := hid (names_c w s m hm hs)
  clear hm
  generalize pathNo s = z at *
  go_enter Tryd.func12, Tryd.ntmps12
  go_wp2_with (go_at_call 13; refine (HN.out).mono ?_; rintro e w' ⟨v1, rfl, hv, hx⟩; have HX := hid hx; clear hx hv)
  go_ret
  exact ⟨rfl, HX.out⟩

theorem join_len (B : Nat) : ∀ (l : List (List UInt8)), (∀ x ∈ l, x.length ≤ B) → (Lib.join l [47]).length ≤ (B + 1) * l.length
  | [], _ => by simp [Lib.join_nil]
  | [x], h => by
    have := h x (by simp)
    rw [Lib.join_one]; simp; omega
  | x :: y :: r, h => by
    have h1 := h x (by simp)
    have ih := join_len B (y :: r) fun z hz => h z (by simp [hz])
    rw [Lib.join_cons, join_tail1, List.length_append, List.length_cons, List.length_cons, Nat.mul_add]
    omega
theorem name_size {s : ByteArray} (h : nameK s = true) : s.size ≤ 12 := by
  unfold nameK at h
  simp only [Bool.and_eq_true, decide_eq_true_eq] at h
  exact h.1.1.2
theorem joinS_size (B : Nat) (l : List ByteArray) (h : ∀ x ∈ l, x.size ≤ B) : (joinS l).size ≤ (B + 1) * l.length := by
  unfold joinS
  rw [← size_toList, mk_toList]
  have := join_len B (l.map ByteArray.toList) (fun x hx => by
    obtain ⟨y, hy, rfl⟩ := List.mem_map.1 hx
    rw [size_toList]; exact h y hy)
  rw [List.length_map] at this
  exact this
theorem join_fun : (fun x : ByteArray => x.data.toList) = ByteArray.toList := (funext Lib.toList_data).symm
theorem joins_any (w : World) (A : Option Addr) (c : Nat) (l : List ByteArray) (h1 : l.length ≤ c) (hc : 0 < l.length → ∃ b o, A = some ⟨b, o, none⟩ ∧ b < w.heap.size ∧ ∀ k (h : k < l.length), w.cell? ⟨b, o + k, none⟩ = some (.string l[k])) (hl : l.length ≤ 6) (hs : ∀ x ∈ l, x.size ≤ 12) :
    Calls Tryd.prog 24 #[.slice A l.length c, .string ⟨#[47]⟩] w (Ret (.string (joinS l)) w) := by
  cases l with
  | nil => exact (Tryd.strings_Join_none A c ⟨#[47]⟩ w).mono fun e w' ⟨he, hw⟩ => ⟨by rw [he]; rfl, hw ▸ Ext.refl _⟩
  | cons x r =>
    obtain ⟨b, o, rfl, lb, hcell⟩ := hc (by simp)
    have hj := joinS_size 12 (x :: r) hs
    have e : (Lib.join ((x :: r).map (·.data.toList)) (⟨#[47]⟩ : ByteArray).data.toList).length = (joinS (x :: r)).size := by
      unfold joinS
      rw [← size_toList, mk_toList, join_fun]
    refine (Tryd.strings_Join b o c (x :: r) ⟨#[47]⟩ w (fun j y hy => ?_) lb (by omega) h1 (by rw [e]; omega)).mono fun e w' ⟨he, hw⟩ => ⟨?_, hw⟩
    · obtain ⟨hlt, rfl⟩ := List.getElem?_eq_some_iff.1 hy
      exact hcell j hlt
    · rw [he]
      unfold joinS mk
      rw [join_fun]

/-- may names be joined? -/
def okJ (l : List ByteArray) : Bool := decide (l.length ≤ 6) && l.all nameK && rightK (joinS l)
def joinText (l : List ByteArray) : ByteArray := if okJ l then joinS l else ⟨#[]⟩
def joinNo (l : List ByteArray) : Int := if okJ l then 0 else 13
set_option maxRecDepth 100000 in
set_option maxHeartbeats 2000000 in
theorem join_c (w : World) (v : Value) (l : List ByteArray) (m : Int) (hm : w.cell? ⟨0, 0, none⟩ = some (.int .i64 m)) (hv : Sl w 1 v (Strs l)) (hs : ∀ x ∈ l, x.size ≤ 1000) :
    Calls Tryd.prog 15 #[v] w (Ret (.tuple #[.string (joinText l), .int .i64 (joinNo l)]) w) := by
  obtain ⟨A, c, rfl, h1, h2, h3⟩ := sl_str hv
  clear hv
  unfold maxLen at h2
  have HO : Hid (okJ l = (decide (l.length ≤ 6) && l.all nameK && rightK (joinS l))) := rfl
  have HY : Hid (okJ l = true → joinText l = joinS l ∧ joinNo l = 0) := fun h => by unfold joinText joinNo; rw [h]; exact ⟨rfl, rfl⟩
  have HNo : Hid (okJ l = false → joinText l = ⟨#[]⟩ ∧ joinNo l = 13) := fun h => by unfold joinText joinNo; rw [h]; exact ⟨rfl, rfl⟩
  generalize joinText l = T at *
  generalize joinNo l = N at *
  generalize okJ l = z at *
  by_cases h6 : l.length ≤ 6
  · have d6 : decide ((6 : Int) < (l.length : Int)) = false := by simp; omega
    have HJ : Hid (l.all nameK = true → ∀ W, Ext w W → Calls Tryd.prog 24 #[.slice A l.length c, .string ⟨#[47]⟩] W (Ret (.string (joinS l)) W)) := fun hall W he =>
      joins_any W A c l h1 (fun hn => by
        obtain ⟨b, o, e1, e2, e3⟩ := h3 hn
        exact ⟨b, o, e1, Nat.lt_of_lt_of_le e2 he.size, fun k hk => he.cell (e3 k hk)⟩) h6 (fun x hx => name_size (List.all_eq_true.1 hall x hx))
    have HC : Hid (l.all nameK = true → ∀ W, Ext w W → Calls Tryd.prog 12 #[.string (joinS l)] W (Ret (.int .i64 (pathNo (joinS l))) W)) := fun hall W he =>
      check_c W _ m (he.cell hm) (by
        have := joinS_size 12 l (fun x hx => name_size (List.all_eq_true.1 hall x hx))
        omega)
    rw [decide_eq_true h6, Bool.true_and] at HO
    have hl6 : (l.length : Int) ≤ 6 := by omega
    clear h6 hm
    go_enter Tryd.func15, Tryd.ntmps15
    go_wp2_with fail
    go_loopw [13] (fun i wr => ∃ k : Nat, k ≤ l.length ∧ i = .int .i64 k ∧ Ext w wr ∧ (l.take k).all nameK = true) (fun i _ => l.length - (intOf i).toNat)
    case atStart => exact ⟨0, by omega, rfl, Ext.refl _, rfl⟩
    case round =>
      obtain ⟨k, hk, rfl, hE, hall⟩ := hrel
      by_cases hlt : k < l.length
      · obtain ⟨b, o, rfl, lb0, hc⟩ := h3 (by omega)
        have c0 := hE.cell (hc k hlt)
        have lb1 := Nat.lt_of_lt_of_le lb0 hE.size
        have a2 := hs _ (List.getElem_mem hlt)
        have HN : Hid (∀ W, Calls Tryd.prog 23 #[.string l[k]] W (Ret (.bool (nameK l[k])) W)) := fun W => name_any _ W (by omega)
        have HS : Hid ((l.take (k + 1)).all nameK = nameK l[k]) := by unfold Hid; rw [List.take_succ_eq_append_getElem hlt, List.all_append, hall]; simp
        have HB : Hid (nameK l[k] = false → z = false) := fun h => by rw [HO.out, show l.all nameK = false by rw [List.all_eq_false]; exact ⟨_, List.getElem_mem hlt, by rw [h]; simp⟩]; rfl
        have HE := hid hE
        clear hc h3 hE hall a2 HJ HC hs
        generalize l[k] = t at c0 HN HS HB
        cases hn : nameK t with
        | true =>
          rw [hn] at HN
          go_wp2_with (go_at_call 23; refine (HN.out _).mono ?_; rintro e w' ⟨rfl, hx⟩)
          go_roundw
          case rel => exact ⟨k + 1, by omega, by go_num, HE.out.trans hx, by rw [HS.out, hn]⟩
          case measure => simp [intOf]; omega
        | false =>
          obtain ⟨rfl, rfl⟩ := HNo.out (HB.out hn)
          rw [hn] at HN
          go_wp2_with (go_at_call 23; refine (HN.out _).mono ?_; rintro e w' ⟨rfl, hx⟩)
          go_ret2
          exact ⟨rfl, HE.out.trans hx⟩
      · obtain rfl : k = l.length := by omega
        rw [List.take_length] at hall
        have HE := hid hE
        have HJ' := hid (HJ.out hall)
        have HC' := hid (HC.out hall)
        rw [hall, Bool.true_and] at HO
        clear hE h3 hs hall HJ HC
        unfold pathNo at HC'
        rw [← HO.out] at HC'
        cases z with
        | true =>
          obtain ⟨rfl, rfl⟩ := HY.out rfl
          simp only [if_true] at HC'
          go_wp2_with (first
            | (go_at_call 24; refine (HJ'.out _ HE.out).mono ?_; rintro e w2 ⟨rfl, hx⟩; have HE2 := hid (HE.out.trans hx); clear hx)
            | (go_at_call 12; refine (HC'.out _ HE2.out).mono ?_; rintro e w3 ⟨rfl, hx⟩; have HE3 := hid (HE2.out.trans hx); clear hx))
          go_ret2
          exact ⟨rfl, HE3.out⟩
        | false =>
          obtain ⟨rfl, rfl⟩ := HNo.out rfl
          simp only [Bool.false_eq_true, if_false] at HC'
          go_wp2_with (first
            | (go_at_call 24; refine (HJ'.out _ HE.out).mono ?_; rintro e w2 ⟨rfl, hx⟩; have HE2 := hid (HE.out.trans hx); clear hx)
            | (go_at_call 12; refine (HC'.out _ HE2.out).mono ?_; rintro e w3 ⟨rfl, hx⟩; have HE3 := hid (HE2.out.trans hx); clear hx))
          go_ret2
          exact ⟨rfl, HE3.out⟩
  · have d6 : decide ((6 : Int) < (l.length : Int)) = true := by simp; omega
    rw [decide_eq_false h6] at HO
    obtain ⟨rfl, rfl⟩ := HNo.out HO.out
    clear h3 hs h6 hm
    go_enter Tryd.func15, Tryd.ntmps15
    go_wp2_with fail
    go_ret2
    exact ⟨rfl, Ext.refl _⟩
end Go.Proofs.YtfoafookodldfaaDoor
