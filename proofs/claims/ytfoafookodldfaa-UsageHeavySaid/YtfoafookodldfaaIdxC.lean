/-
  Package index: find, Get, At, Next.
-/
import Derived.Test.YtfoafookodldfaaIdxB
namespace Go.Proofs.Ytfoafookodldfaa
set_option linter.unusedSimpArgs false
set_option linter.unusedVariables false
open Go.RowKit

/-- whether a name is there -/
def hasK (s : ByteArray) (l : List PairI) : Bool := match l[rk s l]? with | some p => decide (p.name = s) | none => false
theorem lenR (w : World) (g : Nat) (A : Option Addr) (n c : Nat) (hg : w.cell? ⟨g, 0, none⟩ = some (.slice A n c)) :
    Calls Try.prog 14 #[.pointer (some ⟨g, 0, none⟩)] w (Ret (.int .i64 n) w) :=
  (len_s w g A n c hg).mono fun _ _ ⟨h1, h2⟩ => ⟨h1, h2 ▸ Ext.refl _⟩

set_option maxRecDepth 100000 in
set_option maxHeartbeats 2000000 in
theorem find_c (w : World) (g : Nat) (R : Option Nat) (l : List PairI) (s : ByteArray) (hi : IdxAt w g R l) (hl : l.length ≤ 1000000) (hs : Srt l) :
    Calls Try.prog 37 #[.pointer (some ⟨g, 0, none⟩), .string s] w (Ret (.tuple #[.int .i64 (rk s l), .bool (hasK s l)]) w) := by
  have HR := hid (rank_c w g R l s hi hl hs)
  have hrl := (rk_split hs s).1
  unfold hasK
  generalize rk s l = r at HR hrl ⊢
  obtain ⟨A, c, hg, hgl, hlc, hm, hc⟩ := hi.open_
  unfold maxLen at hm
  by_cases hlt : r < l.length
  · obtain ⟨b, rfl, hbl, hcell⟩ := hc (by omega)
    obtain ⟨c0, c1⟩ := hcell r hlt
    rw [List.getElem?_eq_getElem hlt]
    dsimp only
    generalize l[r].name = t at c0 ⊢
    clear hcell hc hi c1 hs
    go_enter Try.func37, Try.ntmps37
    go_wp2_with (go_at_call 21; refine (HR.out).mono ?_; rintro e w1 ⟨rfl, hx⟩)
    have hlen := hid (fun W (he : Ext w1 W) => lenR W g _ _ _ (he.cell (hx.cell hg)))
    have cg := hx.cell hg
    have cc0 := hx.cell c0
    have hb1 : b < w1.heap.size := Nat.lt_of_lt_of_le hbl hx.size
    have hg1 : g < w1.heap.size := Nat.lt_of_lt_of_le hgl hx.size
    have Hx := hid hx
    clear hx hg c0
    refine wp_region_any_order (by kernel_rfl) (by kernel_rfl) (by kernel_rfl) ?_
    repeat (first
      | (refine AWq.val rfl rfl rfl rfl (fun K hK => ?_); go_big_quiet_op; refine hK _ ?_; clear hK K)
      | (refine AWq.skip rfl rfl rfl ?_; simp only [Act.put, List.setIfInBounds_toArray, List.set_cons_succ, List.set_cons_zero])
      | (refine AWq.call rfl Try.func14 (by kernel_rfl) (by kernel_rfl) rfl rfl rfl ?_; apply Exists.intro; refine And.intro (fun wc hc => ?_) ?_; (· (simp only [argsOf, anyAt, ↓reduceIte, Nat.reduceEqDiff, Array.getD_eq_getD_getElem?, List.getElem?_toArray, List.getElem?_cons_succ, List.getElem?_cons_zero, Option.getD_some]; with_reducible exact hlen.out _ hc)); simp only [Act.put, List.setIfInBounds_toArray, List.set_cons_succ, List.set_cons_zero]))
    refine AWq.done rfl rfl rfl (fun w2 h2 => ?_)
    simp only [closeAny, Act.put, List.setIfInBounds_toArray, List.set_cons_succ, List.set_cons_zero]
    go_wp2
    go_ret2
    exact ⟨by simp [beq_toList], Hx.out.trans h2⟩
  · rw [List.getElem?_eq_none (by omega)]
    clear hc hi hs
    dsimp only
    go_enter Try.func37, Try.ntmps37
    go_wp2_with (go_at_call 21; refine (HR.out).mono ?_; rintro e w1 ⟨rfl, hx⟩)
    have hlen := hid (fun W (he : Ext w1 W) => lenR W g _ _ _ (he.cell (hx.cell hg)))
    have cg := hx.cell hg
    have hg1 : g < w1.heap.size := Nat.lt_of_lt_of_le hgl hx.size
    have Hx := hid hx
    clear hx hg
    refine wp_region_any_order (by kernel_rfl) (by kernel_rfl) (by kernel_rfl) ?_
    repeat (first
      | (refine AWq.val rfl rfl rfl rfl (fun K hK => ?_); go_big_quiet_op; refine hK _ ?_; clear hK K)
      | (refine AWq.skip rfl rfl rfl ?_; simp only [Act.put, List.setIfInBounds_toArray, List.set_cons_succ, List.set_cons_zero])
      | (refine AWq.call rfl Try.func14 (by kernel_rfl) (by kernel_rfl) rfl rfl rfl ?_; apply Exists.intro; refine And.intro (fun wc hc => ?_) ?_; (· (simp only [argsOf, anyAt, ↓reduceIte, Nat.reduceEqDiff, Array.getD_eq_getD_getElem?, List.getElem?_toArray, List.getElem?_cons_succ, List.getElem?_cons_zero, Option.getD_some]; with_reducible exact hlen.out _ hc)); simp only [Act.put, List.setIfInBounds_toArray, List.set_cons_succ, List.set_cons_zero]))
    refine AWq.done rfl rfl rfl (fun w2 h2 => ?_)
    simp only [closeAny, Act.put, List.setIfInBounds_toArray, List.set_cons_succ, List.set_cons_zero]
    go_wp2
    go_ret2
    exact ⟨rfl, Hx.out.trans h2⟩
set_option maxRecDepth 100000 in
set_option maxHeartbeats 2000000 in
theorem get_c (w : World) (g : Nat) (R : Option Nat) (l : List PairI) (s : ByteArray) (hi : IdxAt w g R l) (hl : l.length ≤ 1000000) (hs : Srt l) :
    Calls Try.prog 20 #[.pointer (some ⟨g, 0, none⟩), .string s] w (Ret (match l[rk s l]? with | some p => if p.name = s then .tuple #[.int .i64 p.n, .bool true] else .tuple #[.int .i64 0, .bool false] | none => .tuple #[.int .i64 0, .bool false]) w) := by
  have HR := hid (find_c w g R l s hi hl hs)
  have hrl := (rk_split hs s).1
  unfold hasK at HR
  generalize rk s l = r at HR hrl ⊢
  obtain ⟨A, c, hg, hgl, hlc, hm, hc⟩ := hi.open_
  unfold maxLen at hm
  by_cases hlt : r < l.length
  · obtain ⟨b, rfl, hbl, hcell⟩ := hc (by omega)
    obtain ⟨c0, c1⟩ := hcell r hlt
    rw [List.getElem?_eq_getElem hlt] at HR ⊢
    generalize l[r] = p at c0 c1 HR ⊢
    clear hcell hc hi hs
    dsimp only at HR ⊢
    by_cases hp : p.name = s
    · simp only [hp, decide_true, ↓reduceIte] at HR ⊢
      go_enter Try.func20, Try.ntmps20
      go_wp2_with (go_at_call 37; refine (HR.out).mono ?_; rintro e w1 ⟨rfl, hx⟩; have cg := hx.cell hg; have cc1 := hx.cell c1; have Hx := hid hx; clear hx)
      go_ret2
      exact ⟨rfl, Hx.out⟩
    · simp only [hp, decide_false, ↓reduceIte] at HR ⊢
      go_enter Try.func20, Try.ntmps20
      go_wp2_with (go_at_call 37; refine (HR.out).mono ?_; rintro e w1 ⟨rfl, hx⟩; have Hx := hid hx; clear hx)
      go_ret2
      exact ⟨rfl, Hx.out⟩
  · rw [List.getElem?_eq_none (by omega)] at HR ⊢
    clear hc hi hs
    dsimp only at HR ⊢
    go_enter Try.func20, Try.ntmps20
    go_wp2_with (go_at_call 37; refine (HR.out).mono ?_; rintro e w1 ⟨rfl, hx⟩; have Hx := hid hx; clear hx)
    go_ret2
    exact ⟨rfl, Hx.out⟩

/-- the pair at a place -/
def atK (i : Int) (l : List PairI) : Value := if 0 ≤ i then (match l[i.toNat]? with | some p => .tuple #[.string p.name, .int .i64 p.n, .bool true] | none => .tuple #[.string ⟨#[]⟩, .int .i64 0, .bool false]) else .tuple #[.string ⟨#[]⟩, .int .i64 0, .bool false]
set_option maxRecDepth 100000 in
set_option maxHeartbeats 2000000 in
theorem at_c (w : World) (g : Nat) (R : Option Nat) (l : List PairI) (i : Int) (hi : IdxAt w g R l) :
    Calls Try.prog 15 #[.pointer (some ⟨g, 0, none⟩), .int .i64 i] w (Ret (atK i l) w) := by
  obtain ⟨A, c, hg, hgl, hlc, hm, hc⟩ := hi.open_
  unfold maxLen at hm
  unfold atK
  by_cases h0 : 0 ≤ i
  · obtain ⟨k, rfl⟩ : ∃ k : Nat, i = k := ⟨i.toNat, by omega⟩
    rw [if_pos h0, Int.toNat_natCast]
    by_cases hlt : k < l.length
    · obtain ⟨b, rfl, hbl, hcell⟩ := hc (by omega)
      obtain ⟨c0, c1⟩ := hcell k hlt
      rw [List.getElem?_eq_getElem hlt]
      generalize l[k] = p at c0 c1 ⊢
      clear hcell hc hi
      dsimp only
      go_enter Try.func15, Try.ntmps15
      go_wp2_with (go_at_call 14; refine (len_s _ _ _ _ _ hg).mono ?_; rintro e w' ⟨rfl, rfl⟩)
      go_quiet (fail)
      go_wp2
      refine bodyPost_ret (v := .tuple #[.string p.name, .int .i64 p.n, .bool true]) (by simp [results, Try.results15, go_sem]) rfl ⟨rfl, ?_⟩
      exact (Ext.refl _).drewN' _
    · rw [List.getElem?_eq_none (by omega)]
      clear hc hi
      dsimp only
      go_enter Try.func15, Try.ntmps15
      go_wp2_with (go_at_call 14; refine (len_s _ _ _ _ _ hg).mono ?_; rintro e w' ⟨rfl, rfl⟩)
      refine bodyPost_ret (v := .tuple #[.string ⟨#[]⟩, .int .i64 0, .bool false]) (by simp [results, Try.results15, go_sem]) rfl ⟨rfl, ?_⟩
      exact Ext.refl _
  · rw [if_neg h0]
    clear hc hi
    go_enter Try.func15, Try.ntmps15
    go_wp2_with fail
    refine bodyPost_ret (v := .tuple #[.string ⟨#[]⟩, .int .i64 0, .bool false]) (by simp [results, Try.results15, go_sem]) rfl ⟨rfl, ?_⟩
    exact Ext.refl _

/-- the first pair that is greater -/
def nextPK (s : ByteArray) (l : List PairI) : Value := match l[rkn s l]? with | some p => .tuple #[.string p.name, .bool true] | none => .tuple #[.string ⟨#[]⟩, .bool false]
set_option maxRecDepth 100000 in
set_option maxHeartbeats 2000000 in
theorem inext_c (w : World) (g : Nat) (R : Option Nat) (l : List PairI) (s : ByteArray) (hi : IdxAt w g R l) (hl : l.length ≤ 1000000) (hs : Srt l) :
    Calls Try.prog 23 #[.pointer (some ⟨g, 0, none⟩), .string s] w (Ret (nextPK s l) w) := by
  obtain ⟨r1, r2, r3⟩ := rkn_split hs s
  have hi' := hi.ext (Ext.alloc w (.cells #[.string s] 9))
  have hb := Blk.new w 9 #[.string s]
  have H := first_c _ g R l _ 40 #[.pointer (some ⟨w.heap.size, 0, none⟩)] hi' hl rfl (fun args W => run_callFunc Try.func40 (by kernel_rfl) (by kernel_rfl)) (fun x => blt s x.name) (fun W x _ hE => next1_c x s w.heap.size W ((hb.ext hE).cell rfl) (hb.ext hE).lt) (rkn s l) r1 (fun k h hk => by simp [r2 k h hk]) (fun k h hk => by simp [r3 k h hk])
  have HH := hid H
  have HA := hid (fun W (he : Ext (w.alloc (.cells #[.string s] 9)) W) => at_c W g R l (rkn s l) (hi'.ext he))
  clear H hi hi' hb r2 r3 hs
  unfold nextPK
  unfold atK at HA
  rw [if_pos (by omega)] at HA
  rw [Int.toNat_natCast] at HA
  cases hq : l[rkn s l]? with
  | some p =>
    rw [hq] at HA
    dsimp only at HA ⊢
    clear hq
    go_enter Try.func23, Try.ntmps23
    go_wp2_with (first | (go_at_call 38; refine (HH.out).mono ?_; rintro e w' ⟨rfl, hx⟩) | (go_at_call 15; refine (HA.out _ hx).mono ?_; rintro e w'' ⟨rfl, hy⟩))
    go_ret2
    exact ⟨rfl, (((Ext.refl _).alloc' _).trans hx).trans hy⟩
  | none =>
    rw [hq] at HA
    dsimp only at HA ⊢
    clear hq
    go_enter Try.func23, Try.ntmps23
    go_wp2_with (first | (go_at_call 38; refine (HH.out).mono ?_; rintro e w' ⟨rfl, hx⟩) | (go_at_call 15; refine (HA.out _ hx).mono ?_; rintro e w'' ⟨rfl, hy⟩))
    go_ret2
    exact ⟨rfl, (((Ext.refl _).alloc' _).trans hx).trans hy⟩
end Go.Proofs.Ytfoafookodldfaa
