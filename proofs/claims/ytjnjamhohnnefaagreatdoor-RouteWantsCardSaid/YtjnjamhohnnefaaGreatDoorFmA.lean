/-
  filter.Match.
-/
import Derived.Test.YtjnjamhohnnefaaGreatDoorShA
import Derived.Test.YtjnjamhohnnefaaGreatDoorCov
namespace Go.Proofs.YtjnjamhohnnefaaGreatDoor
set_option linter.unusedSimpArgs false
set_option linter.unusedVariables false
open Go.RowKit

structure ClauseI where
  pre : ByteArray
  lo : Int
  hi : Int
def ClauseI.cells (c : ClauseI) : List Value := [.string c.pre, .int .i64 c.lo, .int .i64 c.hi]
def ClauseI.val (c : ClauseI) : Value := .agg #[.string c.pre, .int .i64 c.lo, .int .i64 c.hi]
theorem clause_coded : Coded ClauseI.cells 3 := ⟨fun _ => rfl, fun a u hu => by simp [ClauseI.cells] at hu; rcases hu with rfl | rfl | rfl <;> rfl⟩
structure FileI where
  p : ByteArray
  size : Int
  dead : Bool
def FileI.val (x : FileI) : Value := .agg #[.string x.p, .int .i64 x.size, .bool x.dead]
/-- Does a clause take a file? -/
def hitB (x : FileI) (c : ClauseI) : Bool := cov c.pre x.p && (x.dead || cutsB x.size ⟨c.lo, c.hi⟩)
set_option maxRecDepth 100000 in
set_option maxHeartbeats 2000000 in
theorem match1_c (w : World) (q : Nat) (c : ClauseI) (x : FileI) (h : Blk w q 32 #[.string x.p, .int .i64 x.size, .bool x.dead]) (hx : x.p.size ≤ 1000) (hc : c.pre.size ≤ 1000) : Calls Tryz.prog 69 #[c.val, .pointer (some ⟨q, 0, none⟩)] w (Ret (.bool (hitB x c)) w) := by
  have HC := fun W => hid (pcovers_c c.pre x.p W (by unfold maxLen; omega) (by unfold maxLen; omega))
  have hl := lit_row (w := w.alloc (.cells #[.string c.pre, .int .i64 c.lo, .int .i64 c.hi] 65)) (n := 1) rng_coded 63 [⟨c.lo, c.hi⟩] #[.int .i64 c.lo, .int .i64 c.hi] rfl rfl (by unfold maxLen; omega)
  rw [World.size_alloc] at hl
  have HH := hid (holds_c _ _ [⟨c.lo, c.hi⟩] x.size hl)
  simp only [List.any_cons, List.any_nil, Bool.or_false] at HH
  clear hl
  have e1 := Ext.alloc w (.cells #[.string c.pre, .int .i64 c.lo, .int .i64 c.hi] 65)
  have hb := h.ext e1
  have q0 := hb.cell (i := 0) (v := .string x.p) rfl
  have q1 := hb.cell (i := 1) (v := .int .i64 x.size) rfl
  have q2 := hb.cell (i := 2) (v := .bool x.dead) rfl
  have lq := hb.lt
  have hb2 := hb.alloc (.cells #[.int .i64 c.lo, .int .i64 c.hi] 63)
  have q1b := hb2.cell (i := 1) (v := .int .i64 x.size) rfl
  have lqb := hb2.lt
  have hne : ¬ w.heap.size = q := by have := h.lt; omega
  clear h hb hb2 e1
  unfold hitB ClauseI.val
  generalize cutsB x.size ⟨c.lo, c.hi⟩ = cut at HH ⊢
  cases h1 : cov c.pre x.p with
  | false =>
    rw [h1] at HC
    clear h1 HH
    go_enter Tryz.func69, Tryz.ntmps69
    go_wp2_with (go_at_call 70; refine (HC _).out.mono ?_; rintro e w5 ⟨rfl, rfl⟩)
    go_ret
    exact ⟨rfl, Ext.alloc _ _⟩
  | true =>
    rw [h1] at HC
    cases h2 : x.dead with
    | true =>
      rw [h2] at q2
      clear h1 h2 HH
      go_enter Tryz.func69, Tryz.ntmps69
      go_wp2_with (go_at_call 70; refine (HC _).out.mono ?_; rintro e w5 ⟨rfl, rfl⟩)
      go_ret
      exact ⟨rfl, Ext.alloc _ _⟩
    | false =>
      rw [h2] at q2
      clear h1 h2
      go_enter Tryz.func69, Tryz.ntmps69
      go_wp2_with (first
        | (go_at_call 71; refine (HH.out).mono ?_; rintro e w6 ⟨rfl, hx6⟩; have HX6 := hid hx6; clear hx6)
        | (go_at_call 70; refine (HC _).out.mono ?_; rintro e w5 ⟨rfl, rfl⟩))
      go_ret
      exact ⟨rfl, ((Ext.alloc _ _).alloc' _).trans HX6.out⟩
set_option maxRecDepth 100000 in
set_option maxHeartbeats 1000000 in
theorem cindex_c (w : World) (v : Value) (l : List ClauseI) (q : Nat) (p : ClauseI → Bool) (h : Sl w 3 v (l.map ClauseI.cells)) (HP : ∀ W, Ext w W → ∀ x ∈ l, Hid (Calls Tryz.prog 69 #[x.val, .pointer (some ⟨q, 0, none⟩)] W (Ret (.bool (p x)) W))) :
    Calls Tryz.prog 88 #[v, .func (.func 69) #[] #[.pointer (some ⟨q, 0, none⟩)]] w (RetQ (fun u _ => ∃ z : Int, u = .int .i64 z ∧ decide (0 ≤ z) = l.any p) w) := by
  obtain ⟨A, c, rfl, h1, h2, h3⟩ := sl_get h
  unfold maxLen at h2
  have R1 : Hid (∀ k (h : k < l.length), p l[k] = true → l.any p = true) := fun k h e => List.any_eq_true.2 ⟨_, List.getElem_mem h, e⟩
  have R2 : Hid ((∀ y ∈ l, p y = false) → l.any p = false) := fun h => List.any_eq_false.2 fun x hx => by simp [h x hx]
  generalize l.any p = r at R1 R2 ⊢
  clear h
  go_enter Tryz.func88, Tryz.ntmps88
  go_wp2_with fail
  go_loopw [8] (fun i wr => ∃ k : Nat, k ≤ l.length ∧ i = .int .i64 k ∧ Ext w wr ∧ Hid (∀ y ∈ l.take k, p y = false)) (fun i _ => l.length - (intOf i).toNat)
  case atStart => exact ⟨0, by omega, rfl, Ext.refl _, fun y hy => by simp at hy⟩
  case round =>
    obtain ⟨k, hk, rfl, hE, hno⟩ := hrel
    by_cases hlt : k < l.length
    · obtain ⟨b, o, rfl, lb, hcell⟩ := h3 (by omega)
      have c0 := hE.cell (hcell k hlt 0 _ rfl)
      have c1 := hE.cell (hcell k hlt 1 _ rfl)
      have c2 := hE.cell (hcell k hlt 2 _ rfl)
      rw [Nat.add_zero] at c0
      have lbr := Nat.lt_of_lt_of_le lb hE.size
      have HE := hid hE
      have R3 := hid (R1.out k hlt)
      have HN2 : Hid (p l[k] = false → ∀ y ∈ l.take (k + 1), p y = false) := fun hf y hy => by
        rw [List.take_succ_eq_append_getElem hlt] at hy
        rcases List.mem_append.1 hy with hy | hy
        · exact hno.out y hy
        · rw [List.mem_singleton.1 hy]; exact hf
      have HPk := fun W (hW : Ext wr W) => HP W (hE.trans hW) l[k] (List.getElem_mem hlt)
      clear hcell h3 hE HP
      generalize l[k] = z at c0 c1 c2 R3 HN2 HPk
      unfold ClauseI.val at HPk
      cases hp : p z with
      | true =>
        rw [hp] at HPk
        have hr := hid (R3.out hp)
        clear R3 HN2 R1 R2
        go_wp2_with fail
        refine (HPk _ (Ext.refl _)).out.mono ?_
        rintro e w' ⟨rfl, hx⟩
        go_wp2_with fail
        go_ret
        exact ⟨_, rfl, ⟨_, rfl, by rw [hr.out]; simp⟩, HE.out.trans hx⟩
      | false =>
        rw [hp] at HPk
        have HN3 := hid (HN2.out hp)
        clear R3 HN2
        go_wp2_with fail
        refine (HPk _ (Ext.refl _)).out.mono ?_
        rintro e w' ⟨rfl, hx⟩
        go_wp2_with fail
        go_roundw
        case rel => exact ⟨k + 1, by omega, by go_num, HE.out.trans hx, HN3.out⟩
        case measure => simp [intOf]; omega
    · obtain rfl : k = l.length := by omega
      have HE := hid hE
      rw [List.take_length] at hno
      have hr := hid (R2.out hno.out)
      clear hE h3 hno R1 R2 HP
      go_wp2_with fail
      go_ret
      exact ⟨_, rfl, ⟨_, rfl, by rw [hr.out]; rfl⟩, HE.out⟩
def LightF (f : List ClauseI) : Prop := ∀ c ∈ f, c.pre.size ≤ 100
set_option maxRecDepth 100000 in
set_option maxHeartbeats 1000000 in
theorem fmatch_c (w : World) (v : Value) (f : List ClauseI) (x : FileI) (h : Sl w 3 v (f.map ClauseI.cells)) (hx : x.p.size ≤ 1000) (hf : LightF f) : Calls Tryz.prog 59 #[v, x.val] w (Ret (.bool (f.any (hitB x))) w) := by
  have HI := hid (cindex_c (w.alloc (.cells #[.string x.p, .int .i64 x.size, .bool x.dead] 32)) v f w.heap.size (hitB x) (h.ext (Ext.alloc _ _)) (fun W hW c hc => hid (match1_c W w.heap.size c x ((Blk.new w _ _).ext hW) hx (by have := hf c hc; omega))))
  generalize f.any (hitB x) = r at HI ⊢
  obtain ⟨A, c, rfl, _⟩ := sl_get h
  clear h
  unfold FileI.val
  go_enter Tryz.func59, Tryz.ntmps59
  go_wp2_with (first
    | (go_at_call 72; go_in)
    | (go_at_call 88; refine (HI.out).mono ?_; rintro e w' ⟨u, rfl, ⟨z, rfl, hz⟩, hx⟩))
  go_ret
  exact ⟨by rw [← hz]; rfl, (Ext.alloc _ _).trans hx⟩
end Go.Proofs.YtjnjamhohnnefaaGreatDoor
