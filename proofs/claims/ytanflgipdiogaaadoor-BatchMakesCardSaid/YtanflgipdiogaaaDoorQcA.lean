/-
  Entries: what they are; '==' of updates, metas, pairs, entries.
  msg.ver, both, pair, bare; leb.Lay of no fields.
  msg.bare.
  msg.both.
-/
import Derived.Test.YtanflgipdiogaaaDoorQaE
import Derived.Test.YtanflgipdiogaaaDoorVcA
namespace Go.Proofs.YtanflgipdiogaaaDoor
set_option linter.unusedSimpArgs false
set_option linter.unusedVariables false
open Go.RowKit

structure PairI where
  a : Ver
  b : Ver
def PairI.val (p : PairI) : Value := .agg #[.int .i64 p.a.by_, .int .i64 p.a.n, .int .i64 p.b.by_, .int .i64 p.b.n]
structure EntI where
  kind : Int
  u : UpdI
  m : MetaI
  o : PairI
def EntI.cells (e : EntI) : List Value := [.int .i64 e.kind, .int .i64 e.u.item.by_, .int .i64 e.u.item.n, .int .i64 e.u.st.v.by_, .int .i64 e.u.st.v.n, .int .i64 e.u.st.time, .string e.u.p, .string e.u.d, .bool e.u.dead, .int .i64 e.m.item.by_, .int .i64 e.m.item.n, .int .i64 e.m.st.v.by_, .int .i64 e.m.st.v.n, .int .i64 e.m.st.time, .string e.m.p, .int .i64 e.m.size, .bool e.m.dead, .int .i64 e.o.a.by_, .int .i64 e.o.a.n, .int .i64 e.o.b.by_, .int .i64 e.o.b.n]
def EntI.arr (e : EntI) : Array Value := #[.int .i64 e.kind, .int .i64 e.u.item.by_, .int .i64 e.u.item.n, .int .i64 e.u.st.v.by_, .int .i64 e.u.st.v.n, .int .i64 e.u.st.time, .string e.u.p, .string e.u.d, .bool e.u.dead, .int .i64 e.m.item.by_, .int .i64 e.m.item.n, .int .i64 e.m.st.v.by_, .int .i64 e.m.st.v.n, .int .i64 e.m.st.time, .string e.m.p, .int .i64 e.m.size, .bool e.m.dead, .int .i64 e.o.a.by_, .int .i64 e.o.a.n, .int .i64 e.o.b.by_, .int .i64 e.o.b.n]
instance : DecidableEq MetaI := fun a b => if h : a.item = b.item ∧ a.st = b.st ∧ a.p = b.p ∧ a.size = b.size ∧ a.dead = b.dead then isTrue (by cases a; cases b; simp_all) else isFalse (by rintro rfl; exact h ⟨rfl, rfl, rfl, rfl, rfl⟩)
instance : DecidableEq PairI := fun a b => if h : a.a = b.a ∧ a.b = b.b then isTrue (by cases a; cases b; simp_all) else isFalse (by rintro rfl; exact h ⟨rfl, rfl⟩)
theorem ver_eq {a b : Ver} : a = b ↔ a.by_ = b.by_ ∧ a.n = b.n := by cases a; cases b; simp
theorem run_eqG_ver (d : Nat) (hd : d = 9999 ∨ d = 9998 ∨ d = 9997) (a1 a2 b1 b2 : Int) (w : World) : (Op.equalIn d 34 (.agg #[.int .i64 a1, .int .i64 a2]) (.agg #[.int .i64 b1, .int .i64 b2])).run Tryd.prog w = .ok (decide ((⟨a1, a2⟩ : Ver) = ⟨b1, b2⟩)) w := by
  rcases hd with rfl | rfl | rfl <;> by_cases h1 : a1 = b1 <;> by_cases h2 : a2 = b2 <;> simp [go_sem, h1, h2, ver_eq]
theorem e97 (a1 a2 b1 b2 : Int) (w : World) : (Op.equalIn 9997 34 (.agg #[.int .i64 a1, .int .i64 a2]) (.agg #[.int .i64 b1, .int .i64 b2])).run Tryd.prog w = .ok (decide ((⟨a1, a2⟩ : Ver) = ⟨b1, b2⟩)) w := run_eqG_ver 9997 (.inr (.inr rfl)) a1 a2 b1 b2 w
theorem e98 (a1 a2 b1 b2 : Int) (w : World) : (Op.equalIn 9998 34 (.agg #[.int .i64 a1, .int .i64 a2]) (.agg #[.int .i64 b1, .int .i64 b2])).run Tryd.prog w = .ok (decide ((⟨a1, a2⟩ : Ver) = ⟨b1, b2⟩)) w := run_eqG_ver 9998 (.inr (.inl rfl)) a1 a2 b1 b2 w
theorem e99 (a1 a2 b1 b2 : Int) (w : World) : (Op.equalIn 9999 34 (.agg #[.int .i64 a1, .int .i64 a2]) (.agg #[.int .i64 b1, .int .i64 b2])).run Tryd.prog w = .ok (decide ((⟨a1, a2⟩ : Ver) = ⟨b1, b2⟩)) w := run_eqG_ver 9999 (.inl rfl) a1 a2 b1 b2 w
attribute [go_sem 2000] e97 e98 e99
theorem st_eq {a b : Stamp} : a = b ↔ a.v = b.v ∧ a.time = b.time := by cases a; cases b; simp
set_option maxHeartbeats 1000000 in
theorem run_eqG_st (a1 a2 a3 b1 b2 b3 : Int) (w : World) : (Op.equalIn 9998 36 (.agg #[.int .i64 a1, .int .i64 a2, .int .i64 a3]) (.agg #[.int .i64 b1, .int .i64 b2, .int .i64 b3])).run Tryd.prog w = .ok (decide ((⟨⟨a1, a2⟩, a3⟩ : Stamp) = ⟨⟨b1, b2⟩, b3⟩)) w := by
  by_cases h1 : (⟨a1, a2⟩ : Ver) = ⟨b1, b2⟩ <;> by_cases h2 : a3 = b3 <;> simp [go_sem, h1, h2, st_eq]
attribute [go_sem 2000] run_eqG_st
theorem up_eq {a b : UpdI} : a = b ↔ a.item = b.item ∧ a.st = b.st ∧ a.p = b.p ∧ a.d = b.d ∧ a.dead = b.dead := by cases a; cases b; simp
theorem me_eq {a b : MetaI} : a = b ↔ a.item = b.item ∧ a.st = b.st ∧ a.p = b.p ∧ a.size = b.size ∧ a.dead = b.dead := by cases a; cases b; simp
theorem pa_eq {a b : PairI} : a = b ↔ a.a = b.a ∧ a.b = b.b := by cases a; cases b; simp
theorem en_eq {a b : EntI} : a = b ↔ a.kind = b.kind ∧ a.u = b.u ∧ a.m = b.m ∧ a.o = b.o := by cases a; cases b; simp
set_option maxRecDepth 100000 in
set_option maxHeartbeats 4000000 in
theorem run_eqG_upd (a b : UpdI) (w : World) : (Op.equalIn 9999 38 a.val b.val).run Tryd.prog w = .ok (decide (a = b)) w := by
  obtain ⟨⟨a1, a2⟩, ⟨⟨a3, a4⟩, a5⟩, ap, ad, ax⟩ := a
  obtain ⟨⟨b1, b2⟩, ⟨⟨b3, b4⟩, b5⟩, bp, bd, bx⟩ := b
  have hp : (ap.toList == bp.toList) = decide (ap = bp) := beq_toList ap bp
  have hd : (ad.toList == bd.toList) = decide (ad = bd) := beq_toList ad bd
  unfold UpdI.val
  by_cases h1 : (⟨a1, a2⟩ : Ver) = ⟨b1, b2⟩ <;> by_cases h2 : (⟨⟨a3, a4⟩, a5⟩ : Stamp) = ⟨⟨b3, b4⟩, b5⟩ <;> by_cases h3 : ap = bp <;> by_cases h4 : ad = bd <;> by_cases h5 : ax = bx <;> simp [go_sem, h1, h2, h3, h4, h5, hp, hd, up_eq]
set_option maxRecDepth 100000 in
set_option maxHeartbeats 4000000 in
theorem run_eqG_met (a b : MetaI) (w : World) : (Op.equalIn 9999 40 a.val b.val).run Tryd.prog w = .ok (decide (a = b)) w := by
  obtain ⟨⟨a1, a2⟩, ⟨⟨a3, a4⟩, a5⟩, ap, ad, ax⟩ := a
  obtain ⟨⟨b1, b2⟩, ⟨⟨b3, b4⟩, b5⟩, bp, bd, bx⟩ := b
  have hp : (ap.toList == bp.toList) = decide (ap = bp) := beq_toList ap bp
  unfold MetaI.val
  by_cases h1 : (⟨a1, a2⟩ : Ver) = ⟨b1, b2⟩ <;> by_cases h2 : (⟨⟨a3, a4⟩, a5⟩ : Stamp) = ⟨⟨b3, b4⟩, b5⟩ <;> by_cases h3 : ap = bp <;> by_cases h4 : ad = bd <;> by_cases h5 : ax = bx <;> simp [go_sem, h1, h2, h3, h4, h5, hp, me_eq]
set_option maxRecDepth 100000 in
set_option maxHeartbeats 4000000 in
theorem run_eqG_pair (a b : PairI) (w : World) : (Op.equalIn 9999 42 a.val b.val).run Tryd.prog w = .ok (decide (a = b)) w := by
  obtain ⟨⟨a1, a2⟩, ⟨a3, a4⟩⟩ := a
  obtain ⟨⟨b1, b2⟩, ⟨b3, b4⟩⟩ := b
  unfold PairI.val
  by_cases h1 : (⟨a1, a2⟩ : Ver) = ⟨b1, b2⟩ <;> by_cases h2 : (⟨a3, a4⟩ : Ver) = ⟨b3, b4⟩ <;> simp [go_sem, h1, h2, pa_eq]
theorem eqU_lit (a1 a2 a3 a4 a5 b1 b2 b3 b4 b5 : Int) (ap ad bp bd : ByteArray) (ax bx : Bool) (w : World) : (Op.equalIn 9999 38 (.agg #[.int .i64 a1, .int .i64 a2, .int .i64 a3, .int .i64 a4, .int .i64 a5, .string ap, .string ad, .bool ax]) (.agg #[.int .i64 b1, .int .i64 b2, .int .i64 b3, .int .i64 b4, .int .i64 b5, .string bp, .string bd, .bool bx])).run Tryd.prog w = .ok (decide ((⟨⟨a1, a2⟩, ⟨⟨a3, a4⟩, a5⟩, ap, ad, ax⟩ : UpdI) = ⟨⟨b1, b2⟩, ⟨⟨b3, b4⟩, b5⟩, bp, bd, bx⟩)) w := run_eqG_upd ⟨⟨a1, a2⟩, ⟨⟨a3, a4⟩, a5⟩, ap, ad, ax⟩ ⟨⟨b1, b2⟩, ⟨⟨b3, b4⟩, b5⟩, bp, bd, bx⟩ w
theorem eqM_lit (a1 a2 a3 a4 a5 b1 b2 b3 b4 b5 ad bd : Int) (ap bp : ByteArray) (ax bx : Bool) (w : World) : (Op.equalIn 9999 40 (.agg #[.int .i64 a1, .int .i64 a2, .int .i64 a3, .int .i64 a4, .int .i64 a5, .string ap, .int .i64 ad, .bool ax]) (.agg #[.int .i64 b1, .int .i64 b2, .int .i64 b3, .int .i64 b4, .int .i64 b5, .string bp, .int .i64 bd, .bool bx])).run Tryd.prog w = .ok (decide ((⟨⟨a1, a2⟩, ⟨⟨a3, a4⟩, a5⟩, ap, ad, ax⟩ : MetaI) = ⟨⟨b1, b2⟩, ⟨⟨b3, b4⟩, b5⟩, bp, bd, bx⟩)) w := run_eqG_met ⟨⟨a1, a2⟩, ⟨⟨a3, a4⟩, a5⟩, ap, ad, ax⟩ ⟨⟨b1, b2⟩, ⟨⟨b3, b4⟩, b5⟩, bp, bd, bx⟩ w
theorem eqP_lit (a1 a2 a3 a4 b1 b2 b3 b4 : Int) (w : World) : (Op.equalIn 9999 42 (.agg #[.int .i64 a1, .int .i64 a2, .int .i64 a3, .int .i64 a4]) (.agg #[.int .i64 b1, .int .i64 b2, .int .i64 b3, .int .i64 b4])).run Tryd.prog w = .ok (decide ((⟨⟨a1, a2⟩, ⟨a3, a4⟩⟩ : PairI) = ⟨⟨b1, b2⟩, ⟨b3, b4⟩⟩)) w := run_eqG_pair ⟨⟨a1, a2⟩, ⟨a3, a4⟩⟩ ⟨⟨b1, b2⟩, ⟨b3, b4⟩⟩ w
attribute [go_sem 2000] eqU_lit eqM_lit eqP_lit
instance : DecidableEq EntI := fun a b => if h : a.kind = b.kind ∧ a.u = b.u ∧ a.m = b.m ∧ a.o = b.o then isTrue (by cases a; cases b; simp_all) else isFalse (by rintro rfl; exact h ⟨rfl, rfl, rfl, rfl⟩)
set_option maxRecDepth 100000 in
set_option maxHeartbeats 4000000 in
theorem run_eq_ent (x y : EntI) (w : World) : (Op.equalIn 10000 44 (.agg x.arr) (.agg y.arr)).run Tryd.prog w = .ok (decide (x = y)) w := by
  have hk : decide (x = y) = (decide (x.kind = y.kind) && (decide (x.u = y.u) && (decide (x.m = y.m) && decide (x.o = y.o)))) := by
    rw [Bool.eq_iff_iff]; simp [en_eq]
  rw [hk]
  unfold EntI.arr
  have eu : ∀ u : UpdI, (⟨⟨u.item.by_, u.item.n⟩, ⟨⟨u.st.v.by_, u.st.v.n⟩, u.st.time⟩, u.p, u.d, u.dead⟩ : UpdI) = u := fun u => rfl
  have em : ∀ u : MetaI, (⟨⟨u.item.by_, u.item.n⟩, ⟨⟨u.st.v.by_, u.st.v.n⟩, u.st.time⟩, u.p, u.size, u.dead⟩ : MetaI) = u := fun u => rfl
  have eo : ∀ u : PairI, (⟨⟨u.a.by_, u.a.n⟩, ⟨u.b.by_, u.b.n⟩⟩ : PairI) = u := fun u => rfl
  by_cases h1 : x.kind = y.kind <;> by_cases h2 : x.u = y.u <;> by_cases h3 : x.m = y.m <;> by_cases h4 : x.o = y.o <;> simp [go_sem, h1, h2, h3, h4, eu, em, eo]
end Go.Proofs.YtanflgipdiogaaaDoor
namespace Go.Proofs.YtanflgipdiogaaaDoor
set_option linter.unusedSimpArgs false
set_option linter.unusedVariables false
open Go.RowKit

set_option maxRecDepth 100000 in
set_option maxHeartbeats 4000000 in
theorem mver_c (w : World) (v : Ver) : Calls Tryd.prog 102 #[v.val] w (RetQ (fun u W => OwnF [fN v.by_, fN v.n] w.heap.size u W ∧ ∃ q, u = .slice (some ⟨q, 0, none⟩) 2 2) w) := by
  have HN := fun W n => hid (fN_c W n)
  have HB := hid (Blk.new w 34 #[.int .i64 v.by_, .int .i64 v.n])
  have HE := hid (Ext.alloc w (.cells #[.int .i64 v.by_, .int .i64 v.n] 34))
  unfold Ver.val
  go_enter Tryd.func102, Tryd.ntmps102
  go_wp2_with fail
  have hw := HE.out.size
  generalize w.alloc (.cells #[.int .i64 v.by_, .int .i64 v.n] 34) = w0 at HB HE hw ⊢
  have HWs := hid hw
  have b0 := HB.out.cell (i := 0) (v := .int .i64 v.by_) rfl
  have b1 := HB.out.cell (i := 1) (v := .int .i64 v.n) rfl
  have bl := HB.out.lt
  clear hw
  refine wp_region_any_order (by kernel_rfl) (by kernel_rfl) (by kernel_rfl) ?_
  repeat (first
    | (refine AWq.val rfl rfl rfl rfl (fun K hK => ?_); go_big_quiet_op; refine hK _ ?_; clear hK K)
    | (refine AWq.skip rfl rfl rfl ?_; simp only [Act.put, List.setIfInBounds_toArray, List.set_cons_succ, List.set_cons_zero])
    | (refine AWq.call rfl Tryd.func50 (by kernel_rfl) (by kernel_rfl) rfl rfl rfl ?_; apply Exists.intro; refine And.intro (fun wc hc => ?_) ?_; (· (simp only [argsOf, anyAt, ↓reduceIte, Nat.reduceEqDiff, Array.getD_eq_getD_getElem?, List.getElem?_toArray, List.getElem?_cons_succ, List.getElem?_cons_zero, Option.getD_some]; with_reducible exact (HN _ _).out)); simp only [Act.put, List.setIfInBounds_toArray, List.set_cons_succ, List.set_cons_zero])
    | (refine AWq.opV (fun u W => OwnF [fN v.by_, fN v.n] w.heap.size u W ∧ ∃ q, u = .slice (some ⟨q, 0, none⟩) 2 2) (fun u _ _ he h => ⟨OwnF.ext h.1 he, h.2⟩) rfl rfl rfl rfl (fun wc hc => ?_) ?_; (· (have hc2 := Nat.le_trans HWs.out hc.size; have hc' := hc.rule; clear hc; go_simp; dsimp only [Gives]; exact ⟨⟨own_two wc hc2 (fN v.by_) (fN v.n), _, rfl⟩, Ext.alloc _ _⟩)))
    | (refine AWq.opQ ((fun u W => OwnF [fN v.by_, fN v.n] w.heap.size u W ∧ ∃ q, u = .slice (some ⟨q, 0, none⟩) 2 2)) ((fun u _ _ he h => ⟨OwnF.ext h.1 he, h.2⟩)) rfl (fun a wc hc hl' => ⟨rfl, ?_⟩) ?_; (· (have e := hl' 9 (of_decide_eq_true (by kernel_rfl)); exact ⟨e, Ext.refl _⟩))))
  refine AWq.done rfl rfl rfl (fun w2 x2 => ?_)
  simp only [closeAny, Act.put, List.setIfInBounds_toArray, List.set_cons_succ, List.set_cons_zero]
  intro u2 h2 _ _
  go_wp2_with fail
  go_ret
  exact ⟨_, rfl, h2, HE.out.trans x2⟩
set_option maxRecDepth 100000 in
set_option maxHeartbeats 4000000 in
theorem lay_nil (w : World) : Calls Tryd.prog 72 #[.slice none 0 0] w (Ret (.tuple #[.string ⟨#[]⟩, .int .i64 0]) w) := by
  have HQ0 := hid (Blk.new w 150 #[.slice none 0 0])
  have HE0 := hid (Ext.alloc w (.cells #[.slice none 0 0] 150))
  go_enter Tryd.func72, Tryd.ntmps72
  go_wp2_with fail
  generalize w.alloc (.cells #[.slice none 0 0] 150) = w0 at HQ0 HE0 ⊢
  go_loopw [13] (fun i wr => i = .int .i64 0 ∧ Hid (Ext w0 wr)) (fun i _ => 0)
  case atStart => exact ⟨rfl, Ext.refl _⟩
  case round =>
    obtain ⟨rfl, HE⟩ := hrel
    have HQ1 := hid (HQ0.out.ext HE.out)
    have HE1 := hid (HE0.out.trans HE.out)
    clear HQ0 HE0 HE
    go_wp2_with fail
    go_loopw [28] (fun i W => i = .int .i64 0 ∧ Hid (Ext w W) ∧ Hid (Blk W w.heap.size 150 #[.slice none 0 0])) (fun i _ => 0)
    case atStart => exact ⟨rfl, HE1, HQ1⟩
    case round =>
      obtain ⟨rfl, HE2, HQ2⟩ := hrel
      have b0 := HQ2.out.cell (i := 0) (v := .slice none 0 0) rfl
      have bl := HQ2.out.lt
      clear HE1 HQ1
      have hcv : (convert 150 9 (.slice none 0 0)).run Tryd.prog wr = .ok (.string ⟨#[]⟩) wr := by
        rw [run_convert_bytes_string _ _ _ 5 _ _ _ Tryd.underlying150 Tryd.underlying5 Tryd.underlying9]
        rfl
      go_wp2_with fail
      go_ret2
      exact ⟨rfl, HE2.out⟩
def pairB (p : PairI) : Bool := rightV p.a && rightV p.b
set_option maxRecDepth 100000 in
set_option maxHeartbeats 2000000 in
theorem mpair_c (w : World) (p : PairI) : Calls Tryd.prog 98 #[p.val] w (Ret (.bool (pairB p)) w) := by
  have H1 := fun W => hid (vcheck_c p.a W)
  have H2 := fun W => hid (vcheck_c p.b W)
  have HE := hid (Ext.alloc w (.cells #[.int .i64 p.a.by_, .int .i64 p.a.n, .int .i64 p.b.by_, .int .i64 p.b.n] 42))
  have HB := hid (Blk.new w 42 #[.int .i64 p.a.by_, .int .i64 p.a.n, .int .i64 p.b.by_, .int .i64 p.b.n])
  unfold Ver.val at H1 H2
  unfold PairI.val pairB
  cases h1 : rightV p.a with
  | false =>
    rw [checkV_no h1] at H1
    clear h1 H2
    go_enter Tryd.func98, Tryd.ntmps98
    go_wp2_with fail
    refine ((H1 _).out).mono ?_
    rintro e w1 ⟨rfl, x1⟩
    have X1 := hid (HE.out.trans x1)
    clear x1
    go_wp2_with fail
    go_ret
    exact ⟨rfl, X1.out⟩
  | true =>
    rw [checkV_yes h1] at H1
    clear h1
    have hz : ∀ b, rightV p.b = b → (checkV p.b == 0) = b := fun b hb => by unfold checkV; rw [hb]; cases b <;> rfl
    have hz := hz _ rfl
    generalize checkV p.b = z at H2 hz
    generalize rightV p.b = r at hz ⊢
    go_enter Tryd.func98, Tryd.ntmps98
    go_wp2_with fail
    refine ((H1 _).out).mono ?_
    rintro e w1 ⟨rfl, x1⟩
    have X1 := hid (HE.out.trans x1)
    have HB1 := hid (HB.out.ext x1)
    have c2 := HB1.out.cell (i := 2) (v := .int .i64 p.b.by_) rfl
    have c3 := HB1.out.cell (i := 3) (v := .int .i64 p.b.n) rfl
    have l1 := HB1.out.lt
    clear x1
    go_wp2_with fail
    refine ((H2 _).out).mono ?_
    rintro e w2 ⟨rfl, x2⟩
    have X2 := hid (X1.out.trans x2)
    clear x2
    go_wp2_with fail
    go_ret
    exact ⟨rfl, X2.out⟩
def met00 : MetaI := ⟨⟨0, 0⟩, ⟨⟨0, 0⟩, 0⟩, ⟨#[]⟩, 0, false⟩
def pair00 : PairI := ⟨⟨0, 0⟩, ⟨0, 0⟩⟩
def bareB (e : EntI) : Bool := if e.kind = 1 then decide (e.m = met00 ∧ e.o = pair00) else if e.kind = 2 then decide (e.u = upd0 ∧ e.o = pair00) else decide (e.kind = 3 ∧ e.u = upd0 ∧ e.m = met00)
theorem bare1 (e : EntI) : decide (e = ⟨e.kind, e.u, met00, pair00⟩) = decide (e.m = met00 ∧ e.o = pair00) := by rw [decide_eq_decide, en_eq]; simp
theorem bare2 (e : EntI) : decide (e = ⟨e.kind, upd0, e.m, pair00⟩) = decide (e.u = upd0 ∧ e.o = pair00) := by rw [decide_eq_decide, en_eq]; simp
theorem bare3 (e : EntI) : decide (e = ⟨3, upd0, met00, e.o⟩) = decide (e.kind = 3 ∧ e.u = upd0 ∧ e.m = met00) := by rw [decide_eq_decide, en_eq]; simp
end Go.Proofs.YtanflgipdiogaaaDoor
namespace Go.Proofs.YtanflgipdiogaaaDoor
set_option linter.unusedSimpArgs false
set_option linter.unusedVariables false
open Go.RowKit

attribute [-simp] Tryd.isAgg44 Tryd.sizeOf44
theorem arr_size (e : EntI) : e.arr.size = 21 := rfl
theorem bareR1 (e : EntI) (w : World) : (Op.equalIn 10000 44 (.agg e.arr) (.agg #[.int .i64 e.kind, .int .i64 e.u.item.by_, .int .i64 e.u.item.n, .int .i64 e.u.st.v.by_, .int .i64 e.u.st.v.n, .int .i64 e.u.st.time, .string e.u.p, .string e.u.d, .bool e.u.dead, .int .i64 0, .int .i64 0, .int .i64 0, .int .i64 0, .int .i64 0, .string ⟨#[]⟩, .int .i64 0, .bool false, .int .i64 0, .int .i64 0, .int .i64 0, .int .i64 0])).run Tryd.prog w = .ok (decide (e.m = met00 ∧ e.o = pair00)) w := by
  rw [← bare1]
  exact run_eq_ent e ⟨e.kind, e.u, met00, pair00⟩ w
theorem bareR2 (e : EntI) (w : World) : (Op.equalIn 10000 44 (.agg e.arr) (.agg #[.int .i64 e.kind, .int .i64 0, .int .i64 0, .int .i64 0, .int .i64 0, .int .i64 0, .string ⟨#[]⟩, .string ⟨#[]⟩, .bool false, .int .i64 e.m.item.by_, .int .i64 e.m.item.n, .int .i64 e.m.st.v.by_, .int .i64 e.m.st.v.n, .int .i64 e.m.st.time, .string e.m.p, .int .i64 e.m.size, .bool e.m.dead, .int .i64 0, .int .i64 0, .int .i64 0, .int .i64 0])).run Tryd.prog w = .ok (decide (e.u = upd0 ∧ e.o = pair00)) w := by
  rw [← bare2]
  exact run_eq_ent e ⟨e.kind, upd0, e.m, pair00⟩ w
theorem bareR3 (e : EntI) (w : World) : (Op.equalIn 10000 44 (.agg e.arr) (.agg #[.int .i64 3, .int .i64 0, .int .i64 0, .int .i64 0, .int .i64 0, .int .i64 0, .string ⟨#[]⟩, .string ⟨#[]⟩, .bool false, .int .i64 0, .int .i64 0, .int .i64 0, .int .i64 0, .int .i64 0, .string ⟨#[]⟩, .int .i64 0, .bool false, .int .i64 e.o.a.by_, .int .i64 e.o.a.n, .int .i64 e.o.b.by_, .int .i64 e.o.b.n])).run Tryd.prog w = .ok (decide (e.kind = 3 ∧ e.u = upd0 ∧ e.m = met00)) w := by
  rw [← bare3]
  exact run_eq_ent e ⟨3, upd0, met00, e.o⟩ w
set_option maxRecDepth 100000 in
set_option maxHeartbeats 4000000 in
theorem bareC1 (w : World) (e : EntI) (d1 : (e.kind == 1) = true) : Calls Tryd.prog 97 #[.agg e.arr] w (Ret (.bool (decide (e.m = met00 ∧ e.o = pair00))) w) := by
  have HE := hid (Ext.alloc w (.cells e.arr 44))
  have HB := hid (Blk.new w 44 e.arr)
  have HQ := fun W => bareR1 e W
  generalize decide (e.m = met00 ∧ e.o = pair00) = r at HQ ⊢
  go_enter Tryd.func97, Tryd.ntmps97
  have hz := hid (arr_size e)
  have h0 : e.arr[0]? = some (.int .i64 e.kind) := rfl
  go_wp2_with fail
  clear h0
  generalize w.alloc (.cells e.arr 44) = w0 at HE HB ⊢
  have c0 := HB.out.cell (i := 0) (v := .int .i64 e.kind) rfl
  have c1 := HB.out.cell (i := 1) (v := .int .i64 e.u.item.by_) rfl
  have c2 := HB.out.cell (i := 2) (v := .int .i64 e.u.item.n) rfl
  have c3 := HB.out.cell (i := 3) (v := .int .i64 e.u.st.v.by_) rfl
  have c4 := HB.out.cell (i := 4) (v := .int .i64 e.u.st.v.n) rfl
  have c5 := HB.out.cell (i := 5) (v := .int .i64 e.u.st.time) rfl
  have c6 := HB.out.cell (i := 6) (v := .string e.u.p) rfl
  have c7 := HB.out.cell (i := 7) (v := .string e.u.d) rfl
  have c8 := HB.out.cell (i := 8) (v := .bool e.u.dead) rfl
  have lb := HB.out.lt
  simp only [Tryd.isAgg44, Tryd.sizeOf44, Result.andThen, ↓reduceIte, run_loadCells_blk HB.out 21 hz.out]
  rw [Oper.upon_value]
  go_wp2_with fail
  go_ret
  exact ⟨rfl, HE.out⟩
set_option maxRecDepth 100000 in
set_option maxHeartbeats 4000000 in
theorem bareC2 (w : World) (e : EntI) (d1 : (e.kind == 1) = false) (d2 : (e.kind == 2) = true) : Calls Tryd.prog 97 #[.agg e.arr] w (Ret (.bool (decide (e.u = upd0 ∧ e.o = pair00))) w) := by
  have HE := hid (Ext.alloc w (.cells e.arr 44))
  have HB := hid (Blk.new w 44 e.arr)
  have HQ := fun W => bareR2 e W
  generalize decide (e.u = upd0 ∧ e.o = pair00) = r at HQ ⊢
  go_enter Tryd.func97, Tryd.ntmps97
  have hz := hid (arr_size e)
  have h0 : e.arr[0]? = some (.int .i64 e.kind) := rfl
  go_wp2_with fail
  clear h0
  generalize w.alloc (.cells e.arr 44) = w0 at HE HB ⊢
  have c0 := HB.out.cell (i := 0) (v := .int .i64 e.kind) rfl
  have c9 := HB.out.cell (i := 9) (v := .int .i64 e.m.item.by_) rfl
  have c10 := HB.out.cell (i := 10) (v := .int .i64 e.m.item.n) rfl
  have c11 := HB.out.cell (i := 11) (v := .int .i64 e.m.st.v.by_) rfl
  have c12 := HB.out.cell (i := 12) (v := .int .i64 e.m.st.v.n) rfl
  have c13 := HB.out.cell (i := 13) (v := .int .i64 e.m.st.time) rfl
  have c14 := HB.out.cell (i := 14) (v := .string e.m.p) rfl
  have c15 := HB.out.cell (i := 15) (v := .int .i64 e.m.size) rfl
  have c16 := HB.out.cell (i := 16) (v := .bool e.m.dead) rfl
  have lb := HB.out.lt
  simp only [Tryd.isAgg44, Tryd.sizeOf44, Result.andThen, ↓reduceIte, run_loadCells_blk HB.out 21 hz.out]
  rw [Oper.upon_value]
  go_wp2_with fail
  go_ret
  exact ⟨rfl, HE.out⟩
set_option maxRecDepth 100000 in
set_option maxHeartbeats 4000000 in
theorem bareC3 (w : World) (e : EntI) (d1 : (e.kind == 1) = false) (d2 : (e.kind == 2) = false) : Calls Tryd.prog 97 #[.agg e.arr] w (Ret (.bool (decide (e.kind = 3 ∧ e.u = upd0 ∧ e.m = met00))) w) := by
  have HE := hid (Ext.alloc w (.cells e.arr 44))
  have HB := hid (Blk.new w 44 e.arr)
  have HQ := fun W => bareR3 e W
  generalize decide (e.kind = 3 ∧ e.u = upd0 ∧ e.m = met00) = r at HQ ⊢
  go_enter Tryd.func97, Tryd.ntmps97
  have hz := hid (arr_size e)
  have h0 : e.arr[0]? = some (.int .i64 e.kind) := rfl
  go_wp2_with fail
  clear h0
  generalize w.alloc (.cells e.arr 44) = w0 at HE HB ⊢
  have c0 := HB.out.cell (i := 0) (v := .int .i64 e.kind) rfl
  have c17 := HB.out.cell (i := 17) (v := .int .i64 e.o.a.by_) rfl
  have c18 := HB.out.cell (i := 18) (v := .int .i64 e.o.a.n) rfl
  have c19 := HB.out.cell (i := 19) (v := .int .i64 e.o.b.by_) rfl
  have c20 := HB.out.cell (i := 20) (v := .int .i64 e.o.b.n) rfl
  have lb := HB.out.lt
  simp only [Tryd.isAgg44, Tryd.sizeOf44, Result.andThen, ↓reduceIte, run_loadCells_blk HB.out 21 hz.out]
  rw [Oper.upon_value]
  go_wp2_with fail
  go_ret
  exact ⟨rfl, HE.out⟩
theorem bare_c (w : World) (e : EntI) : Calls Tryd.prog 97 #[.agg e.arr] w (Ret (.bool (bareB e)) w) := by
  unfold bareB
  by_cases h1 : e.kind = 1
  · rw [if_pos h1]
    exact bareC1 w e (by simp [h1])
  · rw [if_neg h1]
    by_cases h2 : e.kind = 2
    · rw [if_pos h2]
      exact bareC2 w e (by simp [h1]) (by simp [h2])
    · rw [if_neg h2]
      exact bareC3 w e (by simp [h1]) (by simp [h2])
end Go.Proofs.YtanflgipdiogaaaDoor
namespace Go.Proofs.YtanflgipdiogaaaDoor
set_option linter.unusedSimpArgs false
set_option linter.unusedVariables false
open Go.RowKit

def bothF (p : PairI) : List FldI := [fN p.a.by_, fN p.a.n, fN p.b.by_, fN p.b.n]
set_option maxRecDepth 100000 in
set_option maxHeartbeats 4000000 in
theorem both_c (w : World) (p : PairI) : Calls Tryd.prog 99 #[p.val] w (RetQ (OwnF (bothF p) w.heap.size) w) := by
  have HV1 : ∀ W : World, w.heap.size ≤ W.heap.size → Hid (Calls Tryd.prog 102 #[.agg #[.int .i64 p.a.by_, .int .i64 p.a.n]] W (RetQ (fun u W => OwnF [fN p.a.by_, fN p.a.n] w.heap.size u W ∧ ∃ q, u = .slice (some ⟨q, 0, none⟩) 2 2) W)) := fun W hW => (mver_c W p.a).mono fun e w' ⟨v, e1, ⟨e2, e3⟩, e4⟩ => ⟨v, e1, ⟨e2.weak hW, e3⟩, e4⟩
  have HV2 : ∀ W : World, w.heap.size ≤ W.heap.size → Hid (Calls Tryd.prog 102 #[.agg #[.int .i64 p.b.by_, .int .i64 p.b.n]] W (RetQ (fun u W => OwnF [fN p.b.by_, fN p.b.n] w.heap.size u W ∧ ∃ q, u = .slice (some ⟨q, 0, none⟩) 2 2) W)) := fun W hW => (mver_c W p.b).mono fun e w' ⟨v, e1, ⟨e2, e3⟩, e4⟩ => ⟨v, e1, ⟨e2.weak hW, e3⟩, e4⟩
  have HE := hid (Ext.alloc w (.cells #[.int .i64 p.a.by_, .int .i64 p.a.n, .int .i64 p.b.by_, .int .i64 p.b.n] 42))
  have HB := hid (Blk.new w 42 #[.int .i64 p.a.by_, .int .i64 p.a.n, .int .i64 p.b.by_, .int .i64 p.b.n])
  unfold PairI.val bothF
  go_enter Tryd.func99, Tryd.ntmps99
  go_wp2_with fail
  generalize w.alloc (.cells #[.int .i64 p.a.by_, .int .i64 p.a.n, .int .i64 p.b.by_, .int .i64 p.b.n] 42) = w0 at HE HB ⊢
  have HWs := hid HE.out.size
  have b0 := HB.out.cell (i := 0) (v := .int .i64 p.a.by_) rfl
  have b1 := HB.out.cell (i := 1) (v := .int .i64 p.a.n) rfl
  have b2 := HB.out.cell (i := 2) (v := .int .i64 p.b.by_) rfl
  have b3 := HB.out.cell (i := 3) (v := .int .i64 p.b.n) rfl
  have bl := HB.out.lt
  refine wp_region_two (pre := ?pre16) (z1 := ?z116) (z2 := ?z216) ?hpre16 ?hz116 ?hz216 (by kernel_rfl) (by kernel_rfl) (by kernel_rfl) (by kernel_rfl) (by kernel_rfl) ?_
  case hpre16 => (simp only [List.dropLast_cons_cons, List.dropLast_singleton]; first | done | exact rfl)
  case hz116 => (simp only [List.dropLast_cons_cons, List.dropLast_singleton, List.getLast?_cons_cons, List.getLast?_singleton]; first | done | exact rfl)
  case hz216 => (simp only [List.getLast?_cons_cons, List.getLast?_singleton]; first | done | exact rfl)
  repeat (first
    | (refine AWq.val rfl rfl rfl rfl (fun K hK => ?_); go_big_quiet_op; refine hK _ ?_; clear hK K)
    | (refine AWq.skip rfl rfl rfl ?_; simp only [Act.put, List.setIfInBounds_toArray, List.set_cons_succ, List.set_cons_zero])
    | (refine AWq.callQ ((fun u W => OwnF [fN p.a.by_, fN p.a.n] w.heap.size u W ∧ ∃ q, u = .slice (some ⟨q, 0, none⟩) 2 2)) ((fun u _ _ he h => ⟨OwnF.ext h.1 he, h.2⟩)) rfl Tryd.func102 (by kernel_rfl) (by kernel_rfl) rfl rfl rfl (fun wc hc => ?_) ?_; (· (simp only [argsOf, anyAt, ↓reduceIte, Nat.reduceEqDiff, Array.getD_eq_getD_getElem?, List.getElem?_toArray, List.getElem?_cons_succ, List.getElem?_cons_zero, Option.getD_some]; with_reducible exact (HV1 wc (Nat.le_trans HWs.out hc.size)).out)))
    | (refine AWq.callQ ((fun u W => OwnF [fN p.b.by_, fN p.b.n] w.heap.size u W ∧ ∃ q, u = .slice (some ⟨q, 0, none⟩) 2 2)) ((fun u _ _ he h => ⟨OwnF.ext h.1 he, h.2⟩)) rfl Tryd.func102 (by kernel_rfl) (by kernel_rfl) rfl rfl rfl (fun wc hc => ?_) ?_; (· (simp only [argsOf, anyAt, ↓reduceIte, Nat.reduceEqDiff, Array.getD_eq_getD_getElem?, List.getElem?_toArray, List.getElem?_cons_succ, List.getElem?_cons_zero, Option.getD_some]; with_reducible exact (HV2 wc (Nat.le_trans HWs.out hc.size)).out))))
  refine AWq.two rfl rfl rfl (fun w2 x2 => ?_)
  simp only [closeAny, Act.put, List.setIfInBounds_toArray, List.set_cons_succ, List.set_cons_zero]
  intro v8 h8 v5 h5
  obtain ⟨v3, w3, hrun, hO3, hk3⟩ := h5.1.app (Nat.le_trans HWs.out x2.size) h8.1.sl (by simp) (by simp)
  have HEnd : Hid (Ext w w3) := hk3.toExt (HE.out.trans x2) fun q hq => (row_block h5.1 q hq).1
  have HO := hid hO3
  clear hO3 hk3 h5 h8 b0 b1 b2 b3 bl
  at_builtin
  refine wpList_app rfl (.tmp 5) (.tmp 8) _ _ rfl rfl rfl hrun ?_
  go_wp2_with fail
  go_ret
  exact ⟨_, rfl, HO.out, HEnd.out⟩
end Go.Proofs.YtanflgipdiogaaaDoor
