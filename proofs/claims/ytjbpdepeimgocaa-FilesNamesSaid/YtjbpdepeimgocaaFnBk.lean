/-
  files.Find.
-/
import Derived.Test.YtjbpdepeimgocaaFnAk
import Derived.Test.YtjbpdepeimgocaaFlGk
namespace Go.Proofs.Ytjbpdepeimgocaa
set_option linter.unusedSimpArgs false
set_option linter.unusedVariables false
open Go.RowKit Go.Sort

def findN (l : List LeafI) (n : ByteArray) : Option LeafI := l.find? fun x => decide (x.name = n)
theorem findN_at {l : List LeafI} {n : ByteArray} {k : Nat} (h : k < l.length) (hp : ∀ j (hj : j < l.length), j < k → ¬ l[j].name = n) (hk : l[k].name = n) : findN l n = some l[k] := by
  unfold findN
  rw [List.find?_eq_some_iff_getElem]
  exact ⟨by simp [hk], k, h, rfl, fun j hj => by simp [hp j (by omega) hj]⟩
theorem findN_no {l : List LeafI} {n : ByteArray} (hp : ∀ j (hj : j < l.length), ¬ l[j].name = n) : findN l n = none := by
  unfold findN
  rw [List.find?_eq_none]
  intro x hx
  obtain ⟨j, hj, rfl⟩ := List.getElem_of_mem hx
  simp [hp j hj]
def LeafI.arr (u : LeafI) : Array Value := #[.string u.name, .string u.path, .int .i64 u.item.by_, .int .i64 u.item.n, .string u.d]
/-- A leaf laid at q. -/
def put5 (W : World) (q : Nat) (u : LeafI) : World := ((((W.setCell ⟨q, 0, none⟩ (.string u.name)).setCell ⟨q, 1, none⟩ (.string u.path)).setCell ⟨q, 2, none⟩ (.int .i64 u.item.by_)).setCell ⟨q, 3, none⟩ (.int .i64 u.item.n)).setCell ⟨q, 4, none⟩ (.string u.d)
theorem put5_blk {W : World} {q : Nat} {o : LeafI} (h : Blk W q 35 o.arr) (u : LeafI) : Blk (put5 W q u) q 35 u.arr := by
  have h8 := ((((h.set 0 (.string u.name)).set 1 (.string u.path)).set 2 (.int .i64 u.item.by_)).set 3 (.int .i64 u.item.n)).set 4 (.string u.d)
  unfold LeafI.arr at h8
  simp only [List.setIfInBounds_toArray, List.set_cons_zero, List.set_cons_succ] at h8
  exact h8
theorem put5_far {W : World} {q g : Nat} {t : TypeId} {cs : Array Value} (h : Blk W g t cs) (hne : g ≠ q) (u : LeafI) : Blk (put5 W q u) g t cs :=
  ((((h.far hne _).far hne _).far hne _).far hne _).far hne _
theorem put5_ext {w W : World} {q : Nat} (h : Ext w W) (hq : w.heap.size ≤ q) (u : LeafI) : Ext w (put5 W q u) :=
  ((((h.setCell' (p := ⟨q, 0, none⟩) hq _).setCell' (p := ⟨q, 1, none⟩) hq _).setCell' (p := ⟨q, 2, none⟩) hq _).setCell' (p := ⟨q, 3, none⟩) hq _).setCell' (p := ⟨q, 4, none⟩) hq _
set_option maxRecDepth 100000 in
set_option maxHeartbeats 4000000 in
theorem ffind_c (w : World) (v : Value) (l : List LeafI) (n : ByteArray) (h : Sl w 5 v (l.map LeafI.cells)) : Calls Try.prog 21 #[v, .string n] w (Ret (foundK (findN l n)) w) := by
  obtain ⟨A, c, rfl, h1, h2, h3⟩ := sl_get h
  unfold maxLen at h2
  clear h
  go_enter Try.func21, Try.ntmps21
  go_wp2_with fail
  go_step3
  go_wp2_with fail
  go_step3
  go_wp2_with fail
  have e0 : Ext w ((w.alloc (.cells #[.string ⟨#[]⟩, .string ⟨#[]⟩, .int .i64 0, .int .i64 0, .string ⟨#[]⟩] 35)).alloc (.cells #[.string ⟨#[]⟩, .string ⟨#[]⟩, .int .i64 0, .int .i64 0, .string ⟨#[]⟩] 35)) := (Ext.alloc _ _).alloc' _
  have b1 := (Blk.new w 35 #[.string ⟨#[]⟩, .string ⟨#[]⟩, .int .i64 0, .int .i64 0, .string ⟨#[]⟩]).alloc (.cells #[.string ⟨#[]⟩, .string ⟨#[]⟩, .int .i64 0, .int .i64 0, .string ⟨#[]⟩] 35)
  have b2 := Blk.new (w.alloc (.cells #[.string ⟨#[]⟩, .string ⟨#[]⟩, .int .i64 0, .int .i64 0, .string ⟨#[]⟩] 35)) 35 #[.string ⟨#[]⟩, .string ⟨#[]⟩, .int .i64 0, .int .i64 0, .string ⟨#[]⟩]
  rw [World.size_alloc] at b2
  generalize (w.alloc (.cells #[.string ⟨#[]⟩, .string ⟨#[]⟩, .int .i64 0, .int .i64 0, .string ⟨#[]⟩] 35)).alloc (.cells #[.string ⟨#[]⟩, .string ⟨#[]⟩, .int .i64 0, .int .i64 0, .string ⟨#[]⟩] 35) = w0 at e0 b1 b2 ⊢
  obtain ⟨g, hg⟩ : ∃ q, q = w.heap.size := ⟨_, rfl⟩
  obtain ⟨q, hq⟩ : ∃ q, q = w.heap.size + 1 := ⟨_, rfl⟩
  rw [← hq] at b2
  rw [← hg] at b1
  rw [← hq, ← hg]
  have n1 : w.heap.size ≤ g := by omega
  have n2 : w.heap.size ≤ q := by omega
  have n12 : g ≠ q := by omega
  clear hg hq
  have HE0 := hid e0
  have B1 := hid b1
  have B2 := hid b2
  clear e0 b1 b2
  go_loopw [7, 12] (fun fo i wr => ∃ k : Nat, k ≤ l.length ∧ fo = .bool false ∧ i = .int .i64 k ∧ Ext w wr ∧ Blk wr g 35 #[.string ⟨#[]⟩, .string ⟨#[]⟩, .int .i64 0, .int .i64 0, .string ⟨#[]⟩] ∧ Blk wr q 35 #[.string ⟨#[]⟩, .string ⟨#[]⟩, .int .i64 0, .int .i64 0, .string ⟨#[]⟩] ∧ ∀ j (hj : j < l.length), j < k → ¬ l[j].name = n) (fun _ i _ => l.length - (intOf i).toNat)
  case atStart => exact ⟨0, by omega, rfl, rfl, HE0.out, B1.out, B2.out, fun j _ hj => by omega⟩
  case round =>
    obtain ⟨k, hk, rfl, rfl, hE, hb1, hb2, hno⟩ := hrel
    have HE := hid hE
    have HB1 := hid hb1
    have HB2 := hid hb2
    have HNo := hid hno
    by_cases hlt : k < l.length
    · obtain ⟨b, o, rfl, lb, hcell⟩ := h3 (by omega)
      have c0 := hE.cell (hcell k hlt 0 _ rfl)
      have c1 := hE.cell (hcell k hlt 1 _ rfl)
      have c2 := hE.cell (hcell k hlt 2 _ rfl)
      have c3 := hE.cell (hcell k hlt 3 _ rfl)
      have c4 := hE.cell (hcell k hlt 4 _ rfl)
      rw [Nat.add_zero] at c0
      have lbr := Nat.lt_of_lt_of_le lb hE.size
      have HF : Hid (l[k].name = n → findN l n = some l[k]) := fun e => findN_at hlt hno e
      have HNx : Hid (¬ l[k].name = n → ∀ j (hj : j < l.length), j < k + 1 → ¬ l[j].name = n) := fun e j hj hjk => by
        by_cases hjk' : j = k
        · subst hjk'; exact e
        · exact hno j hj (by omega)
      clear hcell h3 hE hno
      by_cases he : l[k].name = n
      · have HF' := hid (HF.out he)
        have d0 : (l[k].name.toList == n.toList) = true := by rw [he]; simp
        have hb1' := hb1.alloc (.cells #[.string l[k].name, .string l[k].path, .int .i64 l[k].item.by_, .int .i64 l[k].item.n, .string l[k].d] 35)
        have hb2' := hb2.alloc (.cells #[.string l[k].name, .string l[k].path, .int .i64 l[k].item.by_, .int .i64 l[k].item.n, .string l[k].d] 35)
        have t0 := hb1'.frozen 0
        have t1 := hb1'.frozen 1
        have t2 := hb1'.frozen 2
        have t3 := hb1'.frozen 3
        have t4 := hb1'.frozen 4
        have u0 := hb2'.frozen 0
        have u1 := hb2'.frozen 1
        have u2 := hb2'.frozen 2
        have u3 := hb2'.frozen 3
        have u4 := hb2'.frozen 4
        have x0 := hb1'.cell (i := 0) rfl
        have x1 := hb1'.cell (i := 1) rfl
        have x2 := hb1'.cell (i := 2) rfl
        have x3 := hb1'.cell (i := 3) rfl
        have x4 := hb1'.cell (i := 4) rfl
        have y0 := hb2'.cell (i := 0) rfl
        have y1 := hb2'.cell (i := 1) rfl
        have y2 := hb2'.cell (i := 2) rfl
        have y3 := hb2'.cell (i := 3) rfl
        have y4 := hb2'.cell (i := 4) rfl
        have lg := hb1'.lt
        have lq := hb2'.lt
        clear HF HNx he hb1 hb2 hb1' hb2'
        generalize l[k] = x at *
        go_wp2_with fail
        rw [Exit.noGoto_ret]
        have HG : Hid (Blk (put5 (put5 (wr.alloc (.cells #[.string x.name, .string x.path, .int .i64 x.item.by_, .int .i64 x.item.n, .string x.d] 35)) q x) g x) g 35 x.arr) := put5_blk (o := leaf0) (put5_far (HB1.out.alloc _) n12 x) x
        refine bodyPost_ret (results_cell_row_tmp rfl _ _ g 35 _ (0, 0) _ rfl HG.out Try.underlying35 rfl (show (Try.prog.info? 35).map (·.size) = some 5 by kernel_rfl)) rfl ⟨?_, put5_ext (put5_ext (HE.out.alloc' _) n2 x) n1 x⟩
        rw [HF'.out]
        rfl
      · have d0 : (l[k].name.toList == n.toList) = false := by rw [beq_toList]; simp [he]
        have HN := hid (HNx.out he)
        clear HF HNx he hb1 hb2
        generalize l[k] = x at c0 c1 c2 c3 c4 d0
        go_wp2_with fail
        go_roundw
        case rel => exact ⟨k + 1, by omega, rfl, by go_num, HE.out.alloc' _, HB1.out.alloc _, HB2.out.alloc _, HN.out⟩
        case measure => simp [intOf]; omega
    · obtain rfl : k = l.length := by omega
      have HF := hid (findN_no (n := n) fun j hj => hno j hj hj)
      have t0 := hb1.frozen 0
      have t1 := hb1.frozen 1
      have t2 := hb1.frozen 2
      have t3 := hb1.frozen 3
      have t4 := hb1.frozen 4
      have x0 := hb1.cell (i := 0) rfl
      have x1 := hb1.cell (i := 1) rfl
      have x2 := hb1.cell (i := 2) rfl
      have x3 := hb1.cell (i := 3) rfl
      have x4 := hb1.cell (i := 4) rfl
      have y0 := hb2.cell (i := 0) rfl
      have y1 := hb2.cell (i := 1) rfl
      have y2 := hb2.cell (i := 2) rfl
      have y3 := hb2.cell (i := 3) rfl
      have y4 := hb2.cell (i := 4) rfl
      have lg := hb1.lt
      have lq := hb2.lt
      clear hE h3 hno hb1 hb2
      go_wp2_with fail
      rw [Exit.noGoto_ret]
      have HG : Hid (Blk (put5 wr g leaf0) g 35 leaf0.arr) := put5_blk (o := leaf0) HB1.out leaf0
      refine bodyPost_ret (results_cell_row_tmp rfl _ _ g 35 _ (0, 0) _ rfl HG.out Try.underlying35 rfl (show (Try.prog.info? 35).map (·.size) = some 5 by kernel_rfl)) rfl ⟨?_, put5_ext HE.out n1 leaf0⟩
      rw [HF.out]
      rfl
end Go.Proofs.Ytjbpdepeimgocaa
