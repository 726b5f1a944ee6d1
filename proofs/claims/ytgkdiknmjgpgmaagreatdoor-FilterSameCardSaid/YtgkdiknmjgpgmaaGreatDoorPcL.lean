/-
  The document's Split and Right.
-/
import Derived.Test.YtgkdiknmjgpgmaaGreatDoorPcK
import Derived.Deep.AppendLies
namespace Go.Proofs.YtgkdiknmjgpgmaaGreatDoor.Pa
open Go.RowKit

theorem ownsRow_ext {w w' : World} {base : Nat} {e : TypeId} {sz : Nat} {v : Value} {n : Nat} {xs : List Value} (h : w.ownsRow base e sz v n xs) (he : Ext w w') : w'.ownsRow base e sz v n xs :=
  ⟨h.1, h.2.imp id fun ⟨g, cap, cur, hv, hb, hg, r⟩ => ⟨g, cap, cur, hv, hb, he.heap hg, r⟩⟩
theorem string_info : (Tryz.prog.info? 9).map (fun i => (i.zero, i.size, i.bytes)) = some (some (.string ⟨#[]⟩), 1, 16) := by kernel_rfl
theorem row_block {w : World} {B : Nat} {e : TypeId} {sz : Nat} {v : Value} {n : Nat} {xs : List Value} (h : w.ownsRow B e sz v n xs) (a : Nat) (ha : v.ownBlock = some a) : B ≤ a ∧ a < w.heap.size := by
  rcases h.2 with ⟨rfl, _⟩ | ⟨g, cap, cur, rfl, hb, hg, _⟩
  · simp [Value.ownBlock] at ha
  · simp [Value.ownBlock] at ha
    subst ha
    exact ⟨hb, (show Blk w g e cur from hg).lt⟩
theorem sl_of_row {w : World} {base : Nat} {e : TypeId} {sz : Nat} {v : Value} {xs : List (List Value)} (hsz : ∀ x ∈ xs, x.length = sz) (h : w.ownsRow base e sz v xs.length xs.flatten) : Sl w sz v xs := by
  rcases h.2 with ⟨rfl, h0⟩ | ⟨g, cap, cur, rfl, _, hg, h1, h2, h3, h4⟩
  · have : xs = [] := List.eq_nil_of_length_eq_zero h0
    subst this
    exact Sl.nil w sz
  · exact Sl.of_flat (show Blk w g e cur from hg) ⟨cur.toList.drop (xs.length * sz), by rw [← h4, List.take_append_drop]⟩ hsz rfl h1 h2
theorem own_strs {w : World} {base : Nat} {e : TypeId} {v : Value} {l : List ByteArray} (h : w.ownsRow base e 1 v l.length (l.map .string)) : Sl w 1 v (Strs l) :=
  sl_of_row (fun x hx => by obtain ⟨y, _, rfl⟩ := List.mem_map.1 hx; rfl) (by rw [strs_flat, show (Strs l).length = l.length by simp [Strs]]; exact h)

theorem seg_toList (s : ByteArray) (a b : Nat) : (s.extract a b).toList = (s.toList.drop a).take (b - a) := by
  rw [Lib.toList_data, Lib.toList_data, ByteArray.data_extract, Array.toList_extract, List.extract_eq_take_drop]
/-- no slash between two places -/
def noSl (s : ByteArray) (a k : Nat) : Prop := ∀ x ∈ (s.extract a k).toList, x ≠ 47
theorem seg_split (s : ByteArray) (a k : Nat) (hk : k < s.size) (ha : a ≤ k) : s.toList.drop a = (s.extract a k).toList ++ s[k] :: s.toList.drop (k + 1) := by
  have hl : k < s.toList.length := by rw [size_toList]; exact hk
  have e : s.toList[k] = s[k] := by
    have := get_toList s k hk
    rw [List.getElem?_eq_getElem hl] at this
    injection this
  rw [seg_toList, ← e, ← List.drop_eq_getElem_cons hl]
  have h2 := List.take_append_drop (k - a) (s.toList.drop a)
  rw [List.drop_drop, show a + (k - a) = k by omega] at h2
  exact h2.symm
theorem noSl_start (s : ByteArray) (a : Nat) : noSl s a a := by
  intro x hx
  rw [seg_toList, Nat.sub_self] at hx
  simp at hx
theorem noSl_step (s : ByteArray) (a k : Nat) (hk : k < s.size) (ha : a ≤ k) (h : noSl s a k) (h47 : s[k] ≠ 47) : noSl s a (k + 1) := by
  intro x hx
  have e : (s.extract a (k + 1)).toList = (s.extract a k).toList ++ [s[k]] := by
    have hlen : ((s.extract a k).toList).length = k - a := by rw [size_toList, ByteArray.size_extract]; omega
    rw [seg_toList s a (k + 1), seg_split s a k hk ha, show k + 1 - a = ((s.extract a k).toList).length + 1 by omega, List.take_length_add_append]
    rfl
  rw [e] at hx
  rcases List.mem_append.1 hx with hx | hx
  · exact h x hx
  · have : x = s[k] := by simpa using hx
    rw [this]; exact h47
theorem cut_at (s : ByteArray) (a k : Nat) (hk : k < s.size) (ha : a ≤ k) (h : noSl s a k) (h47 : s[k] = 47) : sp (s.toList.drop a) = (s.extract a k).toList :: sp (s.toList.drop (k + 1)) := by
  rw [seg_split s a k hk ha, h47]
  exact sp_app _ _ h
theorem cut_end (s : ByteArray) (a : Nat) (h : noSl s a s.size) : sp (s.toList.drop a) = [(s.extract a s.size).toList] := by
  have e : (s.extract a s.size).toList = s.toList.drop a := by
    rw [seg_toList, List.take_of_length_le]
    rw [List.length_drop, size_toList]
    omega
  rw [e]
  unfold noSl at h
  rw [e] at h
  exact sp_none _ h

set_option maxRecDepth 100000 in
set_option maxHeartbeats 4000000 in
theorem rsplit_c (s : ByteArray) (w : World) (hs : s.size ≤ 100000) : Calls Tryz.prog 48 #[.string s, .int .u8 47] w (RetQ (fun v w' => Sl w' 1 v (Strs (spB s))) w) := by
  obtain ⟨i0, hi0, hz0, hz1, hz2⟩ := info_parts string_info
  go_enter Tryz.func48, Tryz.ntmps48
  go_wp2_with fail
  go_loopw [5, 6, 7] (fun v a i wr => ∃ k m : Nat, k ≤ s.size ∧ m ≤ k ∧ i = .int .i64 k ∧ a = .int .i64 m ∧ Ext w wr ∧ ∃ acc : List ByteArray, acc.length ≤ k ∧ sp s.toList = acc.map ByteArray.toList ++ sp (s.toList.drop m) ∧ noSl s m k ∧ wr.ownsRow w.heap.size 9 1 v acc.length (acc.map .string)) (fun _ _ i _ => s.size - (intOf i).toNat)
  case atStart => exact ⟨0, 0, by omega, by omega, rfl, rfl, Ext.refl _, [], Nat.zero_le _, rfl, noSl_start s 0, ⟨rfl, .inl ⟨rfl, rfl⟩⟩⟩
  case round =>
    obtain ⟨k, m, hk, hm, rfl, rfl, hE, acc, hacc, hrest, hno, hown⟩ := hrel
    have HE := hid hE
    have HRest := hid hrest
    have HOwn := hid hown
    by_cases hlt : k < s.size
    · by_cases h47 : s[k] = 47
      · have hb : ((s[k].toNat : Int) == 47) = true := by rw [h47]; rfl
        have HC := hid (cut_at s m k hlt hm hno h47)
        have hbs : w.heap.size ≤ (wr.alloc (.cells #[.string (s.extract m k)] 9)).heap.size := by have := HE.out.size; simp; omega
        have O4 : Hid ((wr.alloc (.cells #[.string (s.extract m k)] 9)).ownsRow w.heap.size 9 1 u5 acc.length (acc.map .string)) := ownsRow_ext HOwn.out (Ext.alloc _ _)
        have HN := hid (noSl_start s (k + 1))
        clear h47 hno hE hrest hown
        go_wp2_with (at_builtin; refine wpList_append_lies _ rfl (.tmp 19) (.tmp 24) _ rfl w.heap.size 9 i0 _ 1 16 Tryz.underlying38 hi0 hz0 hz1 hz2 rfl (by omega) u5 acc.length (acc.map .string) rfl O4.out ⟨wr.heap.size, 0, none⟩ 1 1 [.string (s.extract m k)] rfl rfl (World.news_of_block (cs := #[.string (s.extract m k)]) (t := 9) (fr := (0, 0)) (heap_alloc_new wr _)) (by simp [Value.oneCell']) (by omega) (by unfold maxLen; omega) (by omega) hbs _ rfl ?_; intro g2 c2 w4 hown4 hgrow hat hlt4; have HB : Hid (Ext w w4) := (HE.out.alloc' _).grown hgrow hbs (fun q hq => (row_block O4.out q hq).1); have HO4 := hid hown4; clear hgrow hat hlt4 hown4)
        go_roundw
        case rel => exact ⟨k + 1, k + 1, by omega, by omega, by go_num, by go_num, HB.out, acc ++ [s.extract m k], by simp; omega, by rw [HRest.out, HC.out]; simp, HN.out, by simpa using HO4.out⟩
        case measure => simp [intOf]; omega
      · have hb : ((s[k].toNat : Int) == 47) = false := by
          simp only [beq_eq_false_iff_ne, ne_eq]
          intro h
          exact h47 (UInt8.toNat_inj.1 (show s[k].toNat = (47 : UInt8).toNat by have : (47 : UInt8).toNat = 47 := rfl; omega))
        have HN := hid (noSl_step s m k hlt hm hno h47)
        clear h47 hno hE hrest hown
        go_wp2_with fail
        go_roundw
        case rel => exact ⟨k + 1, m, by omega, by omega, by go_num, rfl, HE.out, acc, by omega, HRest.out, HN.out, HOwn.out⟩
        case measure => simp [intOf]; omega
    · obtain rfl : k = s.size := by omega
      have HC := hid (cut_end s m hno)
      have hbs : w.heap.size ≤ (wr.alloc (.cells #[.string (s.extract m s.size)] 9)).heap.size := by have := HE.out.size; simp; omega
      have O4 : Hid ((wr.alloc (.cells #[.string (s.extract m s.size)] 9)).ownsRow w.heap.size 9 1 u5 acc.length (acc.map .string)) := ownsRow_ext HOwn.out (Ext.alloc _ _)
      have HF : Hid (acc ++ [s.extract m s.size] = spB s) := by
        refine spB_eq ?_
        rw [HRest.out, HC.out]; simp
      clear hno hE hrest hown
      go_wp2_with (at_builtin; refine wpList_append_lies _ rfl (.tmp 28) (.tmp 32) _ rfl w.heap.size 9 i0 _ 1 16 Tryz.underlying38 hi0 hz0 hz1 hz2 rfl (by omega) u5 acc.length (acc.map .string) rfl O4.out ⟨wr.heap.size, 0, none⟩ 1 1 [.string (s.extract m s.size)] rfl rfl (World.news_of_block (cs := #[.string (s.extract m s.size)]) (t := 9) (fr := (0, 0)) (heap_alloc_new wr _)) (by simp [Value.oneCell']) (by omega) (by unfold maxLen; omega) (by omega) hbs _ rfl ?_; intro g2 c2 w4 hown4 hgrow hat hlt4; have HB : Hid (Ext w w4) := (HE.out.alloc' _).grown hgrow hbs (fun q hq => (row_block O4.out q hq).1); have HO4 := hid hown4; clear hgrow hat hlt4 hown4)
      go_ret
      exact ⟨_, rfl, by rw [← HF.out]; exact own_strs (by simpa using HO4.out), HB.out⟩
/-- is a text a path? -/
def rightK (s : ByteArray) : Bool := (spB s).all nameK && decide (s.size ≤ 40) && decide ((spB s).length ≤ 6)
set_option maxRecDepth 100000 in
set_option maxHeartbeats 2000000 in
theorem right_c (s : ByteArray) (w : World) (hs : s.size ≤ 99999) : Calls Tryz.prog 33 #[.string s] w (Ret (.bool (rightK s)) w) := by
  have HSp := hid (rsplit_c s w (by omega))
  have hlen := spB_length s
  have hparts := spB_parts s
  unfold rightK
  generalize spB s = l at HSp hlen hparts
  go_enter Tryz.func33, Tryz.ntmps33
  go_wp2_with (go_at_call 48; refine (HSp.out).mono ?_; rintro e w1 ⟨v1, rfl, hv, hx⟩; have HX := hid hx; obtain ⟨A, c, rfl, h1, h2, h3⟩ := sl_str hv; clear hx hv)
  clear HSp
  unfold maxLen at h2
  go_loopw [4] (fun i wr => ∃ k : Nat, k ≤ l.length ∧ i = .int .i64 k ∧ wr = w1 ∧ (l.take k).all nameK = true) (fun i _ => l.length - (intOf i).toNat)
  case atStart => exact ⟨0, by omega, rfl, rfl, rfl⟩
  case round =>
    obtain ⟨k, hk, rfl, rfl, hall⟩ := hrel
    by_cases hlt : k < l.length
    · obtain ⟨b, o, rfl, lb0, hc⟩ := h3 (by omega)
      have c0 := hc k hlt
      have HN : Hid (∀ W, Calls Tryz.prog 49 #[.string l[k]] W (fun e w' => e = .returned (.bool (nameK l[k])) ∧ W = w')) := fun W => rname_c _ W (by have := hparts _ (List.getElem_mem hlt); omega)
      have HS : Hid ((l.take (k + 1)).all nameK = nameK l[k]) := by unfold Hid; rw [List.take_succ_eq_append_getElem hlt, List.all_append, hall]; simp
      have HB : Hid (nameK l[k] = false → l.all nameK = false) := fun h => by rw [List.all_eq_false]; exact ⟨_, List.getElem_mem hlt, by rw [h]; simp⟩
      clear hc h3 hall hparts
      generalize l[k] = t at c0 HN HS HB
      cases hn : nameK t with
      | true =>
        rw [hn] at HN
        go_wp2_with (go_at_call 49; refine (HN.out _).mono ?_; rintro e w' ⟨rfl, rfl⟩)
        go_roundw
        case rel => exact ⟨k + 1, by omega, by go_num, trivial, by rw [HS.out, hn]⟩
        case measure => simp [intOf]; omega
      | false =>
        rw [hn] at HN
        go_wp2_with (go_at_call 49; refine (HN.out _).mono ?_; rintro e w' ⟨rfl, rfl⟩)
        go_ret
        exact ⟨by rw [HB.out hn]; rfl, HX.out⟩
    · obtain rfl : k = l.length := by omega
      rw [List.take_length] at hall
      have HA := hid hall
      clear hall h3 hparts
      by_cases h40 : s.size ≤ 40
      · have d40 : decide ((s.size : Int) ≤ 40) = true := by simp; omega
        have HQ : Hid ((l.all nameK && decide (s.size ≤ 40) && decide (l.length ≤ 6)) = decide ((l.length : Int) ≤ 6)) := by
          unfold Hid
          rw [HA.out, decide_eq_true h40]
          simp
          omega
        clear h40
        go_wp2_with fail
        go_ret
        exact ⟨by rw [HQ.out]; rfl, HX.out⟩
      · have d40 : decide ((s.size : Int) ≤ 40) = false := by simp; omega
        have HQ : Hid ((l.all nameK && decide (s.size ≤ 40) && decide (l.length ≤ 6)) = false) := by
          unfold Hid
          rw [HA.out, decide_eq_false h40]
          simp
        clear h40
        go_wp2_with fail
        go_ret
        exact ⟨by rw [HQ.out]; rfl, HX.out⟩
end Go.Proofs.YtgkdiknmjgpgmaaGreatDoor.Pa
