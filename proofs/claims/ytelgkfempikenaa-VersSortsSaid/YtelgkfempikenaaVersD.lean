/-
  vers.Newest, vers.Next: loops.
-/
import Derived.Test.YtelgkfempikenaaVersC
namespace Go.Proofs.Ytelgkfempikenaa
set_option linter.unusedSimpArgs false
set_option linter.unusedVariables false
open Go.RowKit

def zeroStamp : Stamp := ⟨⟨0, 0⟩, 0⟩
def newestK (l : List Stamp) : Stamp := (l.foldl (fun p s => (true, takeNew p.1 p.2 s)) (false, zeroStamp)).2
theorem newest_fst (l : List Stamp) (p : Bool × Stamp) : (l.foldl (fun p s => (true, takeNew p.1 p.2 s)) p).1 = (p.1 || decide (0 < l.length)) := by
  induction l generalizing p with
  | nil => simp
  | cons x l ih => rw [List.foldl_cons, ih]; simp
theorem newest_snoc (l : List Stamp) (s : Stamp) : newestK (l ++ [s]) = takeNew (decide (0 < l.length)) (newestK l) s := by
  unfold newestK
  rw [List.foldl_append]
  have := newest_fst l (false, zeroStamp)
  simp only [Bool.false_or] at this
  simp only [List.foldl_cons, List.foldl_nil, this]
theorem newest_take (l : List Stamp) (k : Nat) (h : k < l.length) : newestK (l.take (k + 1)) = takeNew (decide (0 < k)) (newestK (l.take k)) l[k] := by
  rw [List.take_succ_eq_append_getElem h, newest_snoc]
  simp [Nat.min_eq_left (Nat.le_of_lt h)]

def Stamps (l : List Stamp) : List (List Value) := l.map Stamp.cells
theorem sl_stamp {w : World} {v : Value} {l : List Stamp} (h : Sl w 3 v (Stamps l)) : ∃ A c, v = .slice A l.length c ∧ l.length ≤ c ∧ c ≤ maxLen ∧ (0 < l.length → ∃ b o, A = some ⟨b, o, none⟩ ∧ b < w.heap.size ∧ ∀ k (h : k < l.length),
    w.cell? ⟨b, o + k * 3, none⟩ = some (.int .i64 l[k].v.by_) ∧ w.cell? ⟨b, o + k * 3 + 1, none⟩ = some (.int .i64 l[k].v.n) ∧ w.cell? ⟨b, o + k * 3 + 2, none⟩ = some (.int .i64 l[k].time)) := by
  obtain ⟨A, c, h1, h2, h3, h4⟩ := h
  simp only [Stamps, List.length_map] at h1 h2 h4
  refine ⟨A, c, h1, h2, h3, fun hn => ?_⟩
  obtain ⟨b, o, h5, h6, h7⟩ := h4 hn
  refine ⟨b, o, h5, h6, fun k hk => ?_⟩
  have hx : (l.map Stamp.cells)[k]? = some l[k].cells := by simp [hk]
  exact ⟨h7 k _ 0 _ hx rfl, h7 k _ 1 _ hx rfl, h7 k _ 2 _ hx rfl⟩

set_option maxHeartbeats 1000000 in
theorem newest_c (l : List Stamp) (v : Value) (w : World) (hs : Sl w 3 v (Stamps l)) : Calls Try.prog 7 #[v] w (Ret (.tuple #[(newestK l).val, .bool (decide (0 < l.length))]) w) := by
  obtain ⟨A, c, rfl, hn, hm, hc⟩ := sl_stamp hs
  clear hs
  unfold maxLen at hm
  go_enter Try.func7, Try.ntmps7
  go_wp2_with fail
  go_loopw [12] (fun i wr => ∃ k : Nat, k ≤ l.length ∧ i = .int .i64 k ∧ Below w.heap.size w wr ∧ Blk wr w.heap.size 26 zeroStamp.arr ∧ Blk wr (w.heap.size + 1) 26 (newestK (l.take k)).arr ∧ Blk wr (w.heap.size + 1 + 1) 4 #[.bool (decide (0 < k))]) (fun i _ => l.length - (intOf i).toNat)
  case atStart =>
    refine ⟨0, by omega, rfl, ?_, ?_, ?_, ?_⟩
    · exact ((((Ext.refl _).alloc' _).alloc' _).alloc' _)
    · exact (((Blk.new w _ _).alloc _).alloc _)
    · have := (Blk.new (w.alloc (.cells zeroStamp.arr 26)) 26 zeroStamp.arr).alloc (.cells #[.bool false] 4)
      simp only [World.size_alloc] at this
      exact this
    · have := Blk.new ((w.alloc (.cells zeroStamp.arr 26)).alloc (.cells zeroStamp.arr 26)) 4 #[.bool false]
      simp only [World.size_alloc] at this
      exact this
  case round =>
    obtain ⟨k, hk, rfl, hb, h0, h1, h2⟩ := hrel
    by_cases hlt : k < l.length
    · obtain ⟨b, o, rfl, hbl, hcell⟩ := hc (by omega)
      obtain ⟨c0, c1, c2⟩ := hcell k hlt
      have c0 := (hb.cell (p := ⟨b, _, none⟩) hbl).trans c0
      have c1 := (hb.cell (p := ⟨b, _, none⟩) hbl).trans c1
      have c2 := (hb.cell (p := ⟨b, _, none⟩) hbl).trans c2
      have hsz := h2.lt
      have Ht : Hid (newestK (l.take (k + 1)) = takeNew (decide (0 < k)) (newestK (l.take k)) l[k]) := newest_take l k hlt
      have H1 := hid h1
      have H2 := hid h2
      have Hb := hid hb
      clear hcell hc h1 h2 hb
      go_wp2_with (go_at_call 21; refine (take_c l[k] (newestK (l.take k)) (decide (0 < k)) (w.heap.size + 1 + 1) (w.heap.size + 1) _ (H2.out.alloc _) (H1.out.alloc _) (by omega)).mono ?_; rintro e w' ⟨rfl, hk', g2, g1⟩; have G1 := hid g1; have G2 := hid g2; have HK := hid hk'; clear g1 g2 hk')
      have h0' := (h0.alloc (.cells l[k].arr 26)).keep HK.out (by omega)
      go_roundw
      case rel =>
        refine ⟨k + 1, by omega, by go_num, ?_, h0', ?_, ?_⟩
        · exact Hb.out.trans ((Keep.below (S := fun k => k = w.heap.size + 1 + 1 ∨ k = w.heap.size + 1) (((Keep.refl _ wr).alloc _).trans HK.out) (by omega) (fun _ hk => by omega)))
        · rw [Ht.out]; exact G1.out
        · have : decide (0 < k + 1) = true := by simp
          rw [this]; exact G2.out
      case measure => simp [intOf]; omega
    · obtain rfl : k = l.length := by omega
      clear hc
      have hsz := h2.lt
      rw [List.take_length] at h1
      have c0 := h1.cell (i := 0) (v := .int .i64 (newestK l).v.by_) rfl
      have c1 := h1.cell (i := 1) (v := .int .i64 (newestK l).v.n) rfl
      have c2 := h1.cell (i := 2) (v := .int .i64 (newestK l).time) rfl
      have cf := h2.cell (i := 0) (v := .bool (decide (0 < l.length))) rfl
      have d0 := h0.cell (i := 0) (v := .int .i64 0) rfl
      have d1 := h0.cell (i := 1) (v := .int .i64 0) rfl
      have d2 := h0.cell (i := 2) (v := .int .i64 0) rfl
      have f0 := h0.frozen 0
      have f1 := h0.frozen 1
      have f2 := h0.frozen 2
      have H1 := hid h1
      have H2 := hid h2
      have H0 := hid h0
      have Hb := hid hb
      clear h1 h2 hb h0
      go_wp2_with fail
      go_region
      go_wp2
      refine bodyPost_ret (v := .tuple #[(newestK l).val, .bool (decide (0 < l.length))]) (by simp [results, Try.results7, go_sem, Stamp.val, d0, d1, d2, f0, f1, f2]) rfl ⟨rfl, ?_⟩
      exact (((Below.setCell Hb.out (p := ⟨w.heap.size, 0, none⟩) (Nat.le_refl _) _).setCell (p := ⟨w.heap.size, 1, none⟩) (Nat.le_refl _) _).setCell (p := ⟨w.heap.size, 2, none⟩) (Nat.le_refl _) _).drew

def highK (t : Int) (l : List Int) : Int := l.foldl max (max t 0)
theorem highK_take (t : Int) (l : List Int) (k : Nat) (h : k < l.length) : highK t (l.take (k + 1)) = max (highK t (l.take k)) l[k] := by
  unfold highK
  rw [List.take_succ_eq_append_getElem h, List.foldl_append]
  rfl
theorem sl_int {w : World} {v : Value} {l : List Int} (h : Sl w 1 v (Ints l)) : ∃ A c, v = .slice A l.length c ∧ l.length ≤ c ∧ c ≤ maxLen ∧ (0 < l.length → ∃ b o, A = some ⟨b, o, none⟩ ∧ b < w.heap.size ∧ ∀ k (h : k < l.length), w.cell? ⟨b, o + k, none⟩ = some (.int .i64 l[k])) := by
  obtain ⟨A, c, h1, h2, h3, h4⟩ := h
  simp only [Ints, List.length_map] at h1 h2 h4
  refine ⟨A, c, h1, h2, h3, fun hn => ?_⟩
  obtain ⟨b, o, h5, h6, h7⟩ := h4 hn
  refine ⟨b, o, h5, h6, fun k hk => ?_⟩
  have := h7 k [.int .i64 l[k]] 0 _ (by simp [hk]) rfl
  simpa using this

def nextK (m : Int) : Value := if m = 9223372036854775807 then .tuple #[.int .i64 0, .int .i64 15] else .tuple #[.int .i64 (m + 1), .int .i64 0]
theorem highK_le (t : Int) (l : List Int) (ht : t ≤ 9223372036854775807) (hl : ∀ z ∈ l, z ≤ 9223372036854775807) : 0 ≤ highK t l ∧ highK t l ≤ 9223372036854775807 := by
  unfold highK
  have : ∀ (l : List Int) (a : Int), 0 ≤ a → a ≤ 9223372036854775807 → (∀ z ∈ l, z ≤ 9223372036854775807) → 0 ≤ l.foldl max a ∧ l.foldl max a ≤ 9223372036854775807 := by
    intro l
    induction l with
    | nil => intro a h1 h2 _; exact ⟨h1, h2⟩
    | cons x l ih =>
      intro a h1 h2 h3
      rw [List.foldl_cons]
      exact ih _ (by omega) (by have := h3 x (by simp); omega) (fun z hz => h3 z (by simp [hz]))
  exact this l _ (by omega) (by omega) hl

set_option maxHeartbeats 1000000 in
theorem next_c (t : Int) (l : List Int) (v : Value) (w : World) (ht : t ≤ 9223372036854775807) (hl : ∀ z ∈ l, z ≤ 9223372036854775807) (hs : Sl w 1 v (Ints l)) : Calls Try.prog 15 #[.int .i64 t, v] w (Ret (nextK (highK t l)) w) := by
  obtain ⟨A, c, rfl, hn, hm, hc⟩ := sl_int hs
  clear hs
  unfold maxLen at hm
  go_enter Try.func15, Try.ntmps15
  go_wp2_with fail
  go_loop [6, 13] (fun m i => ∃ k : Nat, k ≤ l.length ∧ i = .int .i64 k ∧ m = .int .i64 (highK t (l.take k))) (fun _ i => l.length - (intOf i).toNat)
  case atStart => exact ⟨0, by omega, rfl, by simp [highK]⟩
  case round =>
    obtain ⟨k, hk, rfl, rfl⟩ := hrel
    by_cases hlt : k < l.length
    · obtain ⟨b, o, rfl, hbl, hcell⟩ := hc (by omega)
      have c0 := hcell k hlt
      have Ht : Hid (highK t (l.take (k + 1)) = max (highK t (l.take k)) l[k]) := highK_take t l k hlt
      clear hcell hc
      go_wp2_with fail
      go_round
      case rel => exact ⟨k + 1, by omega, by go_num, by rw [Ht.out]⟩
      case measure => simp [intOf]; omega
    · obtain rfl : k = l.length := by omega
      rw [List.take_length]
      have hr := highK_le t l ht hl
      clear hc hl ht
      generalize hq : highK t l = m at hr ⊢
      have Hq := hid hq
      clear hq
      go_wp2_with fail
      · go_ret2
        exact ⟨by rw [Hq.out]; simp_all [nextK], Ext.refl _⟩
      · go_ret2
        refine ⟨?_, Ext.refl _⟩
        have hne : ¬ m = 9223372036854775807 := by simp_all
        rw [Hq.out, nextK, if_neg hne, IntWalk.wrap64_in (m + 1) (by omega)]; rfl
end Go.Proofs.Ytelgkfempikenaa
