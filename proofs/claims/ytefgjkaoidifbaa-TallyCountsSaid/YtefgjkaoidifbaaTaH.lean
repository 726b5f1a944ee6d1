/-
  Acts and replies; tally.Of.
-/
import Derived.Test.YtefgjkaoidifbaaTaG
import Derived.Test.YtefgjkaoidifbaaVerR
namespace Go.Proofs.Ytefgjkaoidifbaa
set_option linter.unusedSimpArgs false
set_option linter.unusedVariables false
open Go.RowKit Go.Sort Go.Maps

structure ActI where
  kind : Int
  by_ : Int
  k : Int
  p : ByteArray
  q : ByteArray
  v1 : Int
  v2 : Int
  kb : Option Addr
  kl : Nat
  kc : Nat
def ActI.cells (a : ActI) : List Value := [.int .i64 a.kind, .int .i64 a.by_, .int .i64 a.k, .string a.p, .string a.q, .int .i64 a.v1, .int .i64 a.v2, .slice a.kb a.kl a.kc]
structure RepI where
  e : Int
  s : ByteArray
  v1 : Int
  v2 : Int
  n0 : Int
  n1 : Int
  n2 : Int
  n3 : Int
  kb : Option Addr
  kl : Nat
  kc : Nat
def RepI.cells (r : RepI) : List Value := [.int .i64 r.e, .string r.s, .int .i64 r.v1, .int .i64 r.v2, .int .i64 r.n0, .int .i64 r.n1, .int .i64 r.n2, .int .i64 r.n3, .slice r.kb r.kl r.kc]
theorem act_coded : Coded ActI.cells 8 := ⟨fun _ => rfl, fun a u hu => by simp [ActI.cells] at hu; rcases hu with rfl | rfl | rfl | rfl | rfl | rfl | rfl | rfl <;> rfl⟩
theorem rep_coded : Coded RepI.cells 9 := ⟨fun _ => rfl, fun a u hu => by simp [RepI.cells] at hu; rcases hu with rfl | rfl | rfl | rfl | rfl | rfl | rfl | rfl | rfl <;> rfl⟩

def bitI (b : Bool) : Int := if b then 1 else 0
def repE (r : RepI) : Bool := r.e != 0
def repV (r : RepI) : Bool := !eq2 r.v1 r.v2 0 0
def oneC (a : ActI) : Option RepI → Cnt
  | some r => ⟨a.kind, 1, bitI (repE r), bitI (repV r)⟩
  | none => ⟨a.kind, 1, 0, 0⟩
def cnts (l : List ActI) (r : List RepI) : List Cnt :=
  match l with
  | [] => []
  | a :: l => oneC a r.head? :: cnts l r.tail
theorem cnts_len : ∀ (l : List ActI) (r : List RepI), (cnts l r).length = l.length
  | [], _ => rfl
  | a :: l, r => by simp [cnts, cnts_len l]
theorem cnts_get : ∀ (l : List ActI) (r : List RepI) (k : Nat) (h : k < l.length) (h' : k < (cnts l r).length), (cnts l r)[k] = oneC l[k] r[k]?
  | a :: l, r, 0, _, _ => by cases r <;> rfl
  | a :: l, r, k + 1, h, h' => by
    have := cnts_get l r.tail k (by simpa using h) (by simpa [cnts] using h')
    simp only [cnts, List.getElem_cons_succ]
    rw [this]
    cases r <;> simp
theorem cnts_take_succ (l : List ActI) (r : List RepI) (k : Nat) (h : k < l.length) : (cnts l r).take (k + 1) = (cnts l r).take k ++ [oneC l[k] r[k]?] := by
  have h' : k < (cnts l r).length := by rw [cnts_len]; exact h
  rw [List.take_succ_eq_append_getElem h', cnts_get l r k h h']
theorem bitI_bd (b : Bool) : 0 ≤ bitI b ∧ bitI b ≤ 1 := by cases b <;> simp [bitI]
theorem oneC_bd (a : ActI) (r : Option RepI) : Bd 1 (oneC a r) := by
  cases r with
  | none => unfold Bd oneC; simp
  | some r =>
    have h1 := bitI_bd (repE r)
    have h2 := bitI_bd (repV r)
    unfold Bd oneC
    simp only
    omega
theorem cnts_mem {l : List ActI} {r : List RepI} {x : Cnt} (h : x ∈ cnts l r) : Bd 1 x ∧ ∃ a ∈ l, x.kind = a.kind := by
  obtain ⟨k, hk, rfl⟩ := List.getElem_of_mem h
  have hk' : k < l.length := by rwa [cnts_len] at hk
  rw [cnts_get l r k hk' hk]
  refine ⟨oneC_bd _ _, l[k], List.getElem_mem hk', ?_⟩
  cases r[k]? <;> rfl

set_option maxHeartbeats 400000 in
theorem bit_c (b : Bool) (w : World) : Calls Try.prog 70 #[.bool b] w (Ret (.int .i64 (bitI b)) w) := by
  unfold bitI
  cases b
  all_goals go_enter Try.func70, Try.ntmps70
  all_goals go_wp2_with fail
  all_goals go_ret
  all_goals exact ⟨rfl, Ext.refl _⟩

set_option maxRecDepth 100000 in
set_option maxHeartbeats 2000000 in
theorem tof_c (w : World) (v u : Value) (l : List ActI) (r : List RepI) (h : Sl w 8 v (l.map ActI.cells)) (hr : Sl w 9 u (r.map RepI.cells)) (hl : l.length ≤ 100) (hk : ∀ a ∈ l, okK a.kind) : Calls Try.prog 42 #[v, u] w (RetQ (RowAt Cnt.cells 4 (gat (cnts l r))) w) := by
  obtain ⟨A, c, rfl, h1, h2, h3⟩ := sl_get h
  obtain ⟨A', c', rfl, k1, k2, k3⟩ := sl_get hr
  unfold maxLen at h2 k2
  have HK := hid hk
  clear h hr hk
  go_enter Try.func42, Try.ntmps42
  go_wp2_with fail
  go_loopw [5, 11] (fun v i wr => ∃ k : Nat, k ≤ l.length ∧ i = .int .i64 k ∧ Ext w wr ∧ (k = 0 → v = .slice none 0 0) ∧ wr.ownsRow w.heap.size 58 4 v ((cnts l r).take k).length (((cnts l r).take k).map Cnt.cells).flatten) (fun _ i _ => l.length - (intOf i).toNat)
  case atStart => exact ⟨0, by omega, rfl, Ext.refl _, (fun _ => rfl), ownsRow_nil _ _ _ _⟩
  case round =>
    obtain ⟨k, hk, rfl, hE, hz, hO⟩ := hrel
    have HE := hid hE
    have HO := hid hO
    have HZ := hid hz
    by_cases hlt : k < l.length
    · obtain ⟨b, o, rfl, lb, hcell⟩ := h3 (by omega)
      have c0 := hE.cell (hcell k hlt 0 _ rfl)
      have c1 := hE.cell (hcell k hlt 1 _ rfl)
      have c2 := hE.cell (hcell k hlt 2 _ rfl)
      have c3 := hE.cell (hcell k hlt 3 _ rfl)
      have c4 := hE.cell (hcell k hlt 4 _ rfl)
      have c5 := hE.cell (hcell k hlt 5 _ rfl)
      have c6 := hE.cell (hcell k hlt 6 _ rfl)
      have c7 := hE.cell (hcell k hlt 7 _ rfl)
      rw [Nat.add_zero] at c0
      have lbr := Nat.lt_of_lt_of_le lb hE.size
      have HT := hid (cnts_take_succ l r k hlt)
      have HLn : Hid (((cnts l r).take k).length ≤ 100) := by unfold Hid; rw [List.length_take, cnts_len]; omega
      clear hE hcell h3 hz hO
      generalize l[k] = z at c0 c1 c2 c3 c4 c5 c6 c7 HT
      generalize (cnts l r).take k = acc at HO HT HLn
      by_cases hkr : k < r.length
      · obtain ⟨b', o', rfl, lb', hcell⟩ := k3 (by omega)
        have d0 := HE.out.cell (hcell k hkr 0 _ rfl)
        have d2 := HE.out.cell (hcell k hkr 2 _ rfl)
        have d3 := HE.out.cell (hcell k hkr 3 _ rfl)
        rw [Nat.add_zero] at d0
        have lbr' := Nat.lt_of_lt_of_le lb' HE.out.size
        rw [List.getElem?_eq_getElem hkr] at HT
        clear hcell k3
        generalize r[k] = y at d0 d2 d3 HT
        go_wp2_with fail
        have e1 : Ext wr ((wr.alloc (.cells #[.int .i64 z.kind, .int .i64 z.by_, .int .i64 z.k, .string z.p, .string z.q, .int .i64 z.v1, .int .i64 z.v2, .slice z.kb z.kl z.kc] 72)).alloc (.cells #[.int .i64 z.kind, .int .i64 1, .int .i64 0, .int .i64 0] 58)) := (Ext.alloc _ _).alloc' _
        have hB := Blk.new (wr.alloc (.cells #[.int .i64 z.kind, .int .i64 z.by_, .int .i64 z.k, .string z.p, .string z.q, .int .i64 z.v1, .int .i64 z.v2, .slice z.kb z.kl z.kc] 72)) 58 #[.int .i64 z.kind, .int .i64 1, .int .i64 0, .int .i64 0]
        rw [show (wr.alloc (.cells #[.int .i64 z.kind, .int .i64 z.by_, .int .i64 z.k, .string z.p, .string z.q, .int .i64 z.v1, .int .i64 z.v2, .slice z.kb z.kl z.kc] 72)).heap.size = wr.heap.size + 1 by simp] at hB
        obtain ⟨q, hq⟩ : ∃ q, q = wr.heap.size + 1 := ⟨_, rfl⟩
        rw [← hq] at hB ⊢
        have n1 : wr.heap.size ≤ q := by omega
        clear hq
        generalize ((wr.alloc (.cells #[.int .i64 z.kind, .int .i64 z.by_, .int .i64 z.k, .string z.p, .string z.q, .int .i64 z.v1, .int .i64 z.v2, .slice z.kb z.kl z.kc] 72)).alloc (.cells #[.int .i64 z.kind, .int .i64 1, .int .i64 0, .int .i64 0] 58)) = w1 at e1 hB ⊢
        have a0 := e1.cell d0
        have a2 := e1.cell d2
        have a3 := e1.cell d3
        have la := Nat.lt_of_lt_of_le lbr' e1.size
        have HB := hid hB
        have HE1 := hid e1
        clear c0 c1 c2 c3 c4 c5 c6 c7 d0 d2 d3 lbr' lbr hB e1
        obtain ⟨vb, hvb⟩ : ∃ vb, eq2 y.v1 y.v2 0 0 = vb := ⟨_, rfl⟩
        refine wp_region_tail (pre := ?pre) (tl := ?tl) 16 ?hpre ?htl (of_decide_eq_true (by kernel_rfl)) (by kernel_rfl) (by kernel_rfl) (by kernel_rfl) (by kernel_rfl) ?_
        case hpre => (simp only [List.take_succ_cons, List.take_zero]; first | done | exact rfl)
        case htl => (simp only [List.drop_succ_cons, List.drop_zero]; first | done | exact rfl)
        repeat (first
          | (refine AWq.val rfl rfl rfl rfl (fun K hK => ?_); go_big_quiet_op; refine hK _ ?_; clear hK K)
          | (refine AWq.skip rfl rfl rfl ?_; simp only [Act.put, List.setIfInBounds_toArray, List.set_cons_succ, List.set_cons_zero])
          | (refine AWq.call rfl Try.func70 (by kernel_rfl) (by kernel_rfl) rfl rfl rfl ?_; apply Exists.intro; refine And.intro (fun wc hc => ?_) ?_; (· (simp only [argsOf, anyAt, ↓reduceIte, Nat.reduceEqDiff, Array.getD_eq_getD_getElem?, List.getElem?_toArray, List.getElem?_cons_succ, List.getElem?_cons_zero, Option.getD_some]; with_reducible exact bit_c _ _)); simp only [Act.put, List.setIfInBounds_toArray, List.set_cons_succ, List.set_cons_zero]))
        refine AWq.tail rfl rfl rfl (fun w2 x2 => ?_)
        simp only [closeAny, Act.put, List.setIfInBounds_toArray, List.set_cons_succ, List.set_cons_zero]
        have hb2 := HB.out.ext x2
        have q0 := hb2.cell (i := 0) (v := .int .i64 z.kind) rfl
        have q1 := hb2.cell (i := 1) (v := .int .i64 1) rfl
        have q2 := hb2.cell (i := 2) (v := .int .i64 0) rfl
        have q3 := hb2.cell (i := 3) (v := .int .i64 0) rfl
        have fz2 := hb2.frozen 2
        have fz3 := hb2.frozen 3
        have lq2 := hb2.lt
        have hKW : Keep (fun t => t = q) w2 ((w2.setCell ⟨q, 2, none⟩ (.int .i64 (bitI (y.e != 0)))).setCell ⟨q, 3, none⟩ (.int .i64 (bitI !vb))) := ((Keep.refl (fun t => t = q) w2).setCell (p := ⟨q, 2, none⟩) (.inl rfl) _).setCell (p := ⟨q, 3, none⟩) (.inl rfl) _
        have hEW : Ext w ((w2.setCell ⟨q, 2, none⟩ (.int .i64 (bitI (y.e != 0)))).setCell ⟨q, 3, none⟩ (.int .i64 (bitI !vb))) := ((HE.out.trans (HE1.out.trans x2)).setCell' (p := ⟨q, 2, none⟩) (Nat.le_trans HE.out.size n1) _).setCell' (p := ⟨q, 3, none⟩) (Nat.le_trans HE.out.size n1) _
        obtain ⟨v', w4, hrun, ho4, hk4, _⟩ := app_one (P := Try.prog) cnt_elem cnt_coded (ownsRow_keep (ownsRow_ext HO.out (HE1.out.trans x2)) hKW (fun t ht => by have := (row_block HO.out t ht).2; omega)) hEW.size ⟨z.kind, 1, bitI (y.e != 0), bitI !vb⟩ (by have := HLn.out; omega) (by omega)
        simp only [Cnt.cells] at hrun
        rw [show ((w2.setCell ⟨q, 2, none⟩ (.int .i64 (bitI (y.e != 0)))).setCell ⟨q, 3, none⟩ (.int .i64 (bitI !vb))).heap.size = w2.heap.size by simp] at hrun
        have HE4 := hid (hk4.toExt hEW (fun t ht => (row_block HO.out t ht).1))
        have HO4 : Hid (w4.ownsRow w.heap.size 58 4 v' ((cnts l r).take (k + 1)).length (((cnts l r).take (k + 1)).map Cnt.cells).flatten) := by
          have e : oneC z (some y) = ⟨z.kind, 1, bitI (y.e != 0), bitI !vb⟩ := by simp [oneC, repE, repV, hvb]
          unfold Hid
          rw [HT.out, e]
          exact ho4
        clear hb2 hKW hEW ho4 hk4 x2 HT HO HE HZ HLn HE1 HB hvb a0 a2 a3 la
        go_wp2_with (at_builtin; refine wpList_app rfl (.tmp 40) (.tmp 42) _ _ rfl rfl rfl hrun ?_)
        go_roundw
        case rel => exact ⟨k + 1, by omega, by go_num, HE4.out, (fun h => by omega), HO4.out⟩
        case measure => simp [intOf]; omega
      · rw [List.getElem?_eq_none (by omega)] at HT
        clear k3
        have hEW : Ext wr ((wr.alloc (.cells #[.int .i64 z.kind, .int .i64 z.by_, .int .i64 z.k, .string z.p, .string z.q, .int .i64 z.v1, .int .i64 z.v2, .slice z.kb z.kl z.kc] 72)).alloc (.cells #[.int .i64 z.kind, .int .i64 1, .int .i64 0, .int .i64 0] 58)) := (Ext.alloc _ _).alloc' _
        obtain ⟨v', w4, hrun, ho4, hk4, _⟩ := app_one (P := Try.prog) cnt_elem cnt_coded (ownsRow_ext HO.out hEW) (Nat.le_trans HE.out.size hEW.size) ⟨z.kind, 1, 0, 0⟩ (by have := HLn.out; omega) (by omega)
        simp only [Cnt.cells] at hrun
        rw [show ((wr.alloc (.cells #[.int .i64 z.kind, .int .i64 z.by_, .int .i64 z.k, .string z.p, .string z.q, .int .i64 z.v1, .int .i64 z.v2, .slice z.kb z.kl z.kc] 72)).alloc (.cells #[.int .i64 z.kind, .int .i64 1, .int .i64 0, .int .i64 0] 58)).heap.size = wr.heap.size + 1 + 1 by simp] at hrun
        have HE4 := hid (hk4.toExt (HE.out.trans hEW) (fun t ht => (row_block HO.out t ht).1))
        have HO4 : Hid (w4.ownsRow w.heap.size 58 4 v' ((cnts l r).take (k + 1)).length (((cnts l r).take (k + 1)).map Cnt.cells).flatten) := by
          unfold Hid
          rw [HT.out]
          exact ho4
        clear hEW ho4 hk4 HT HO HE HZ HLn
        go_wp2_with (at_builtin; refine wpList_app rfl (.tmp 40) (.tmp 42) _ _ rfl rfl rfl hrun ?_)
        go_roundw
        case rel => exact ⟨k + 1, by omega, by go_num, HE4.out, (fun h => by omega), HO4.out⟩
        case measure => simp [intOf]; omega
    · obtain rfl : k = l.length := by omega
      rw [List.take_of_length_le (l := cnts l r) (by rw [cnts_len]; omega)] at hO
      have hrow := RowAt.of_row cnt_coded hO (fun h0 => hz (by rw [cnts_len] at h0; exact h0))
      have HG := hid (gather_c wr _ (cnts l r) hrow.1 (by rw [cnts_len]; omega) (fun x hx => by
        obtain ⟨hb, a, ha, e⟩ := cnts_mem hx
        refine ⟨?_, by rw [e]; exact HK.out a ha⟩
        unfold Bd at *
        omega))
      clear hE h3 k3 hz hO hrow
      go_wp2_with (go_at_call 71; refine (HG.out).mono ?_; rintro e w' ⟨v', rfl, hv', hx⟩)
      go_ret
      exact ⟨_, rfl, hv', HE.out.trans hx⟩
end Go.Proofs.Ytefgjkaoidifbaa
