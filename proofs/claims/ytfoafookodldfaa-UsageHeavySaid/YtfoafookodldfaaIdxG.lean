/-
  Package index: some.
-/
import Derived.Test.YtfoafookodldfaaIdxF
import Derived.Deep.AppendLies
namespace Go.Proofs.Ytfoafookodldfaa
set_option linter.unusedSimpArgs false
set_option linter.unusedVariables false
open Go.RowKit

theorem ownsRow_ext {w w' : World} {base : Nat} {e : TypeId} {sz : Nat} {v : Value} {n : Nat} {xs : List Value} (h : w.ownsRow base e sz v n xs) (he : Ext w w') : w'.ownsRow base e sz v n xs :=
  ⟨h.1, h.2.imp id fun ⟨g, cap, cur, hv, hb, hg, r⟩ => ⟨g, cap, cur, hv, hb, he.heap hg, r⟩⟩
theorem string_info : (Try.prog.info? 9).map (fun i => (i.zero, i.size, i.bytes)) = some (some (.string ⟨#[]⟩), 1, 16) := by kernel_rfl
theorem own_strs {w : World} {base : Nat} {e : TypeId} {v : Value} {l : List ByteArray} (h : w.ownsRow base e 1 v l.length (l.map .string)) : Sl w 1 v (Strs l) := by
  rcases h.2 with ⟨rfl, h0⟩ | ⟨g, cap, cur, rfl, _, hg, h1, h2, h3, h4⟩
  · have : l = [] := List.eq_nil_of_length_eq_zero h0
    subst this
    exact Sl.nil w 1
  · have hb : Blk w g e cur := hg
    have := Sl.of_blk (xs := Strs l) (sz := 1) hb (by simp [Strs]) h1 h2 fun k x j u hk hj => by
      simp only [Strs, List.getElem?_map, Option.map_eq_some_iff] at hk
      obtain ⟨s, hs, rfl⟩ := hk
      match j, hj with
      | 0, hj =>
        simp at hj; subst hj
        have hk : (l.map Value.string)[k]? = some (.string s) := by simp [hs]
        rw [← h4, List.getElem?_take] at hk
        split at hk
        · simpa using hk
        · cases hk
    exact this

/-- the names from a place on, as long as one thing is so, of which another one is so -/
def restK (on want : ByteArray → Bool) (l : List PairI) (k : Nat) : List ByteArray := (((l.drop k).takeWhile fun p => on p.name).filter fun p => want p.name).map (·.name)
theorem restK_end (on want : ByteArray → Bool) (l : List PairI) (k : Nat) (h : l.length ≤ k) : restK on want l k = [] := by
  unfold restK; rw [List.drop_of_length_le h]; rfl
theorem restK_off (on want : ByteArray → Bool) (l : List PairI) (k : Nat) (h : k < l.length) (ho : on l[k].name = false) : restK on want l k = [] := by
  unfold restK; rw [List.drop_eq_getElem_cons h, List.takeWhile_cons, ho]; rfl
theorem restK_no (on want : ByteArray → Bool) (l : List PairI) (k : Nat) (h : k < l.length) (ho : on l[k].name = true) (hw : want l[k].name = false) : restK on want l k = restK on want l (k + 1) := by
  unfold restK; rw [List.drop_eq_getElem_cons h, List.takeWhile_cons, ho, if_pos rfl, List.filter_cons, hw, if_neg (by simp)]
theorem restK_yes (on want : ByteArray → Bool) (l : List PairI) (k : Nat) (h : k < l.length) (ho : on l[k].name = true) (hw : want l[k].name = true) : restK on want l k = l[k].name :: restK on want l (k + 1) := by
  unfold restK; rw [List.drop_eq_getElem_cons h, List.takeWhile_cons, ho, if_pos rfl, List.filter_cons, hw, if_pos rfl, List.map_cons]

set_option maxRecDepth 100000 in
set_option maxHeartbeats 4000000 in
theorem some_c (w : World) (g : Nat) (R : Option Nat) (l : List PairI) (s : ByteArray) (f1 f2 : Nat) (cap1 cap2 : Array Value) (hi : IdxAt w g R l) (hl : l.length ≤ 1000000) (hs : Srt l)
    (hcf1 : ∀ (args : Array Value) (W : World), (callFunc f1 args).run Try.prog W = .ok (.enter f1 args) W) (hcf2 : ∀ (args : Array Value) (W : World), (callFunc f2 args).run Try.prog W = .ok (.enter f2 args) W) (on want : ByteArray → Bool)
    (hon : ∀ W x, x ∈ l → Ext w W → Hid (Calls Try.prog f1 (#[.string x.name] ++ cap1) W (Ret (.bool (on x.name)) W)))
    (hwant : ∀ W x, x ∈ l → Ext w W → Hid (Calls Try.prog f2 (#[.string x.name] ++ cap2) W (Ret (.bool (want x.name)) W))) :
    Calls Try.prog 43 #[.pointer (some ⟨g, 0, none⟩), .string s, .func (.func f1) #[] cap1, .func (.func f2) #[] cap2] w (RetQ (fun v w' => Sl w' 1 v (Strs (restK on want l (rk s l)))) w) := by
  have HR := hid (rank_c w g R l s hi hl hs)
  have hrl := (rk_split hs s).1
  generalize rk s l = r at HR hrl ⊢
  obtain ⟨A, c, hg, hgl, hlc, hm, hc⟩ := hi.open_
  obtain ⟨i0, hi0, hz0, hz1, hz2⟩ := info_parts string_info
  clear hi hs
  unfold maxLen at hm
  go_enter Try.func43, Try.ntmps43
  go_wp2_with (go_at_call 21; refine (HR.out).mono ?_; rintro e w1 ⟨rfl, hx⟩)
  go_loopw [9, 10] (fun v i wr => ∃ k : Nat, k ≤ l.length ∧ i = .int .i64 k ∧ Ext w wr ∧ ∃ acc : List ByteArray, acc.length ≤ k ∧ restK on want l r = acc ++ restK on want l k ∧ wr.ownsRow w.heap.size 9 1 v acc.length (acc.map .string)) (fun _ i _ => l.length - (intOf i).toNat)
  case atStart => exact ⟨r, hrl, rfl, hx, [], Nat.zero_le _, rfl, ⟨rfl, .inl ⟨rfl, rfl⟩⟩⟩
  case round =>
    obtain ⟨k, hk, rfl, hE, acc, hacc, hrest, hown⟩ := hrel
    by_cases hlt : k < l.length
    · obtain ⟨b, rfl, hbl, hcell⟩ := hc (by omega)
      have c0 := hE.cell (hcell _ hlt).1
      have cg := hE.cell hg
      have HO := hon wr l[k] (List.getElem_mem hlt) hE
      have HWs : Hid (∀ W, Ext wr W → Calls Try.prog f2 (#[.string l[k].name] ++ cap2) W (Ret (.bool (want l[k].name)) W)) := fun W he => (hwant W l[k] (List.getElem_mem hlt) (hE.trans he)).out
      have r1 := hid (restK_off on want l k hlt)
      have r2 := hid (restK_no on want l k hlt)
      have r3 := hid (restK_yes on want l k hlt)
      have HE := hid hE
      have HRest := hid hrest
      have HOwn := hid hown
      have lg := Nat.lt_of_lt_of_le hgl hE.size
      have lb := Nat.lt_of_lt_of_le hbl hE.size
      clear hE hcell hc hrest hown hon hwant hg
      generalize l[k].name = t at c0 HO HWs r1 r2 r3
      go_wp2_with (go_at_call 14; refine (len_s _ _ _ _ _ cg).mono ?_; rintro e w' ⟨rfl, rfl⟩)
      refine (HO.out).mono ?_
      rintro e w2 ⟨rfl, hx2⟩
      have O2 : Hid (w2.ownsRow w.heap.size 9 1 u9 acc.length (acc.map .string)) := ownsRow_ext HOwn.out hx2
      cases hont : on t
      · have HX2 := hid hx2
        clear hx2 c0 cg
        go_wp2_with fail
        go_ret
        exact ⟨_, rfl, by rw [HRest.out, r1.out hont, List.append_nil]; exact own_strs O2.out, HE.out.trans HX2.out⟩
      · have cg2 := hx2.cell cg
        have c02 := hx2.cell c0
        have lg2 := Nat.lt_of_lt_of_le lg hx2.size
        have lb2 := Nat.lt_of_lt_of_le lb hx2.size
        have HX2 := hid hx2
        clear hx2 c0 cg
        go_wp2_with fail
        refine (HWs.out _ HX2.out).mono ?_
        rintro e w3 ⟨rfl, hx3⟩
        have O3 : Hid (w3.ownsRow w.heap.size 9 1 u9 acc.length (acc.map .string)) := ownsRow_ext O2.out hx3
        have HX3 : Hid (Ext w w3) := (HE.out.trans HX2.out).trans hx3
        cases hwt : want t
        · clear hx3 c02 cg2
          go_wp2_with fail
          go_roundw
          case rel => exact ⟨k + 1, by omega, by go_num, HX3.out, acc, by omega, by rw [HRest.out, r2.out hont hwt], O3.out⟩
          case measure => simp [intOf]; omega
        · have cg3 := hx3.cell cg2
          have c03 := hx3.cell c02
          have lg3 := Nat.lt_of_lt_of_le lg2 hx3.size
          have lb3 := Nat.lt_of_lt_of_le lb2 hx3.size
          have hbs : w.heap.size ≤ (w3.alloc (.cells #[.string t] 9)).heap.size := by have := HX3.out.size; simp; omega
          have O4 : Hid ((w3.alloc (.cells #[.string t] 9)).ownsRow w.heap.size 9 1 u9 acc.length (acc.map .string)) := ownsRow_ext O3.out (Ext.alloc _ _)
          clear hx3 c02 cg2
          go_wp2_with (at_builtin; refine wpList_append_lies _ rfl (.tmp 42) (.tmp 51) _ rfl w.heap.size 9 i0 _ 1 16 Try.underlying22 hi0 hz0 hz1 hz2 rfl (by omega) u9 acc.length (acc.map .string) rfl O4.out ⟨w3.heap.size, 0, none⟩ 1 1 [.string t] rfl rfl (World.news_of_block (cs := #[.string t]) (t := 9) (fr := (0, 0)) (heap_alloc_new w3 _)) (by simp [Value.oneCell']) (by omega) (by unfold maxLen; omega) (by omega) hbs _ rfl ?_; intro g2 c2 w4 hown4 hgrow hat hlt4; have HB : Hid (Below w.heap.size w w4) := (HX3.out.alloc' _).grown hgrow hbs (fun q hq => by rcases O4.out.2 with ⟨h, _⟩ | ⟨g', _, _, h, hb', _⟩ <;> rw [h] at hq <;> simp [Value.ownBlock] at hq; omega); have HO4 := hid hown4; clear hgrow hat hlt4 hown4)
          go_roundw
          case rel => exact ⟨k + 1, by omega, by go_num, HB.out, acc ++ [t], by simp; omega, by rw [HRest.out, r3.out hont hwt]; simp, by simpa using HO4.out⟩
          case measure => simp [intOf]; omega
    · obtain rfl : k = l.length := by omega
      have HOwn := hid hown
      have HE := hid hE
      have cg := hE.cell hg
      have HRest := hid hrest
      clear hown hE hc hrest hg hon hwant
      go_wp2_with (go_at_call 14; refine (len_s _ _ _ _ _ cg).mono ?_; rintro e w' ⟨rfl, rfl⟩)
      go_ret
      exact ⟨_, rfl, by rw [HRest.out, restK_end on want l _ (Nat.le_refl _), List.append_nil]; exact own_strs HOwn.out, HE.out⟩
end Go.Proofs.Ytfoafookodldfaa
