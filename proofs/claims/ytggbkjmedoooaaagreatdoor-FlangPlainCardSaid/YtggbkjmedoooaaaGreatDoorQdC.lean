/-
  filter.prefixes.
  filter.Sizes; the document's Sizes.
  path.Parent; which prefixes cover it; filter.above.
  filter.Norm.
-/
import Derived.Test.YtggbkjmedoooaaaGreatDoorSrS
import Derived.Test.YtggbkjmedoooaaaGreatDoorCpS
import Derived.Test.YtggbkjmedoooaaaGreatDoorFmA
import Derived.Test.YtggbkjmedoooaaaGreatDoorFmB
import Derived.Test.YtggbkjmedoooaaaGreatDoorQdB
import Derived.Test.YtggbkjmedoooaaaGreatDoorStC
namespace Go.Proofs.YtggbkjmedoooaaaGreatDoor
set_option linter.unusedSimpArgs false
set_option linter.unusedVariables false
open Go.RowKit Go.Sort

/-- All prefixes, rising, each once. -/
def preS (f : List ClauseI) : List ByteArray := setL blt (f.map (·.pre))
theorem mem_preS (f : List ClauseI) (p : ByteArray) : p ∈ preS f ↔ ∃ c ∈ f, c.pre = p := by
  unfold preS
  rw [mem_setL blt_strict, List.mem_map]
theorem preS_len (f : List ClauseI) : (preS f).length ≤ f.length := by
  have := setL_length blt_strict (f.map (·.pre))
  unfold preS
  rwa [List.length_map] at this
set_option maxRecDepth 100000 in
set_option maxHeartbeats 4000000 in
theorem prefixes_c (w : World) (v : Value) (l : List ClauseI) (h : Sl w 3 v (l.map ClauseI.cells)) (hl : l.length ≤ 5000) : Calls Tryz.prog 42 #[v] w (RetQ (RowAt strC 1 (preS l)) w) := by
  obtain ⟨A, c, rfl, h1, h2, h3⟩ := sl_get h
  unfold maxLen at h2
  clear h
  go_enter Tryz.func42, Tryz.ntmps42
  go_wp2_with fail
  go_loopw [3, 8] (fun v i wr => ∃ (k : Nat) (ov : Value), ov = v ∧ k ≤ l.length ∧ i = .int .i64 k ∧ Ext w wr ∧ (k = 0 → v = .slice none 0 0) ∧ wr.ownsRow w.heap.size 9 1 v ((l.take k).map (·.pre)).length (((l.take k).map (·.pre)).map strC).flatten) (fun _ i _ => l.length - (intOf i).toNat)
  case atStart => exact ⟨0, _, rfl, by omega, rfl, Ext.refl _, (fun _ => rfl), ownsRow_nil _ _ _ _⟩
  case round =>
    obtain ⟨k, v, rfl, hk, rfl, hE, hz, hO⟩ := hrel
    have HE := hid hE
    have HO := hid hO
    have HZ := hid hz
    by_cases hlt : k < l.length
    · obtain ⟨b', o, rfl, lb, hcell⟩ := h3 (by omega)
      have c0 := hE.cell (hcell k hlt 0 _ rfl)
      have c1 := hE.cell (hcell k hlt 1 _ rfl)
      have c2 := hE.cell (hcell k hlt 2 _ rfl)
      rw [Nat.add_zero] at c0
      have lbr := Nat.lt_of_lt_of_le lb hE.size
      have HS : Hid ((l.take (k + 1)).map (·.pre) = (l.take k).map (·.pre) ++ [l[k].pre]) := by unfold Hid; rw [List.take_succ_eq_append_getElem hlt, List.map_append]; rfl
      have hln : ((l.take k).map (·.pre)).length ≤ 5000 := by rw [List.length_map, List.length_take]; omega
      clear hcell h3 hE hz hO
      generalize l[k] = x at c0 c1 c2 HS
      generalize (l.take k).map (·.pre) = acc at HO HS hln
      have hE1 := Ext.alloc wr (.cells #[.string x.pre, .int .i64 x.lo, .int .i64 x.hi] 42)
      obtain ⟨v', w6, hrun6, ho6, hk6, _⟩ := app_one (P := Tryz.prog) str_elem str_coded (ownsRow_ext HO.out hE1) (Nat.le_trans HE.out.size hE1.size) x.pre (by omega) (by omega)
      simp only [strC, World.size_alloc] at hrun6
      have HE6 := hid (hk6.toExt (HE.out.trans hE1) (fun q hq => (row_block HO.out q hq).1))
      have HO6 := hid ho6
      clear ho6 hk6 hE1
      go_wp2_with (at_builtin; refine wpList_app rfl (.tmp 12) (.tmp 15) _ _ rfl rfl rfl hrun6 ?_)
      go_roundw
      case rel => exact ⟨k + 1, _, rfl, by omega, by go_num, HE6.out, (fun h => by omega), by rw [HS.out]; exact HO6.out⟩
      case measure => simp [intOf]; omega
    · obtain rfl : k = l.length := by omega
      rw [List.take_length] at hO
      have hln : (l.map (·.pre)).length ≤ 1000000 := by rw [List.length_map]; omega
      have HN : Hid ((l.map (·.pre)).length = 0 → v = .slice none 0 0) := fun h0 => hz (by rwa [List.length_map] at h0)
      have HB : Hid (∀ q, v.ownBlock = some q → w.heap.size ≤ q) := fun q hq => (row_block hO q hq).1
      have HEw := hid hE
      have HO := hid hO
      have HAll : Hid (preS l = setL blt (l.map (·.pre))) := rfl
      have HL := hid hln
      clear hE h3 hz hO HZ HE hln
      go_wp2_with (first
        | (go_at_call 57; refine (sortS_c HO.out HL.out).mono ?_; rintro e w2 ⟨rfl, k2, l', hp, hs, ho2⟩; have K2 := hid k2; have P2 := hid hp; have S2 := hid hs; have O2 := hid ho2; clear k2 hp hs ho2)
        | (go_at_call 58; refine (CpS.compact_c _ _ _ _ (by rw [P2.out.length_eq]; exact HL.out) O2.out).mono ?_; rintro e w3 ⟨v3, rfl, k3, ho3, _, hn3⟩; have K3 := hid k3; have O3 := hid ho3; have N3 := hid hn3; clear k3 ho3 hn3))
      go_ret
      have e : Lib.compact l' = setL blt (l.map (·.pre)) := compact_sorted blt_strict P2.out S2.out
      rw [e] at O3
      rw [HAll.out]
      refine ⟨_, rfl, RowAt.of_row str_coded O3.out fun h0 => N3.out ?_, (K3.out.toExt (K2.out.toExt HEw.out HB.out) HB.out)⟩
      have h00 : (l.map (·.pre)).length = 0 := by
        have h0' : setL blt (l.map (·.pre)) = [] := List.eq_nil_of_length_eq_zero h0
        rcases hl0 : l.map (·.pre) with _ | ⟨x, t⟩
        · rw [hl0]; rfl
        · have := (mem_setL blt_strict (l.map (·.pre)) x).2 (by rw [hl0]; simp)
          rw [h0'] at this
          cases this
      exact HN.out h00
end Go.Proofs.YtggbkjmedoooaaaGreatDoor
namespace Go.Proofs.YtggbkjmedoooaaaGreatDoor
set_option linter.unusedSimpArgs false
set_option linter.unusedVariables false
open Go.RowKit Go.Sort

def rngOf (c : ClauseI) : Rng := ⟨c.lo, c.hi⟩
/-- The ranges of the clauses whose prefix covers a path. -/
def selR (f : List ClauseI) (p : ByteArray) : List Rng := (f.filter fun c => cov c.pre p).map rngOf
theorem selR_take {f : List ClauseI} {p : ByteArray} {k : Nat} (h : k < f.length) : selR (f.take (k + 1)) p = if cov f[k].pre p then selR (f.take k) p ++ [rngOf f[k]] else selR (f.take k) p := by
  unfold selR
  rw [List.take_succ_eq_append_getElem h, List.filter_append, List.filter_cons, List.filter_nil]
  split <;> simp
theorem selR_len (f : List ClauseI) (p : ByteArray) (k : Nat) : (selR (f.take k) p).length ≤ k := by
  have h1 := List.length_filter_le (fun c : ClauseI => cov c.pre p) (f.take k)
  rw [List.length_take] at h1
  unfold selR
  rw [List.length_map]
  omega
theorem selR_len0 (f : List ClauseI) (p : ByteArray) : (selR f p).length ≤ f.length := by
  have := selR_len f p f.length
  rwa [List.take_length] at this
set_option maxRecDepth 100000 in
set_option maxHeartbeats 4000000 in
theorem fsizes_c (w : World) (v : Value) (l : List ClauseI) (p : ByteArray) (h : Sl w 3 v (l.map ClauseI.cells)) (hl : l.length ≤ 5000) (hp : p.size ≤ 1000) (hs : LightF l) : Calls Tryz.prog 44 #[v, .string p] w (RetQ (RowAt Rng.cells 2 (nf (sizes (selR l p)))) w) := by
  obtain ⟨A, c, rfl, h1, h2, h3⟩ := sl_get h
  unfold maxLen at h2
  have HSz := hid hs
  clear h hs
  go_enter Tryz.func44, Tryz.ntmps44
  go_wp2_with fail
  go_loopw [5, 10] (fun v i wr => ∃ (k : Nat) (ov : Value), ov = v ∧ k ≤ l.length ∧ i = .int .i64 k ∧ Ext w wr ∧ ((selR (l.take k) p).length = 0 → v = .slice none 0 0) ∧ wr.ownsRow w.heap.size 40 2 v (selR (l.take k) p).length ((selR (l.take k) p).map Rng.cells).flatten) (fun _ i _ => l.length - (intOf i).toNat)
  case atStart => exact ⟨0, _, rfl, by omega, rfl, Ext.refl _, (fun _ => rfl), ownsRow_nil _ _ _ _⟩
  case round =>
    obtain ⟨k, v, rfl, hk, rfl, hE, hz, hO⟩ := hrel
    have HE := hid hE
    have HO := hid hO
    have HZ := hid hz
    by_cases hlt : k < l.length
    · obtain ⟨b', o, rfl, lb, hcell⟩ := h3 (by omega)
      have c0 := hE.cell (hcell k hlt 0 _ rfl)
      have c1 := hE.cell (hcell k hlt 1 _ rfl)
      have c2 := hE.cell (hcell k hlt 2 _ rfl)
      rw [Nat.add_zero] at c0
      have lbr := Nat.lt_of_lt_of_le lb hE.size
      have HM := hid (selR_take (p := p) hlt)
      have hln := selR_len l p k
      have hsz := HSz.out _ (List.getElem_mem hlt)
      clear hcell h3 hE hz hO
      generalize selR (l.take k) p = acc at HO HZ HM hln
      generalize l[k] = x at c0 c1 c2 HM hsz
      have HC := fun W => hid (pcovers_c x.pre p W (by unfold maxLen; omega) (by unfold maxLen; omega))
      have hE1 := Ext.alloc wr (.cells #[.string x.pre, .int .i64 x.lo, .int .i64 x.hi] 42)
      cases hc : cov x.pre p with
      | false =>
        rw [hc] at HC HM
        rw [if_neg Bool.false_ne_true] at HM
        have HE1 := hid hE1
        clear hc hE1
        go_wp2_with (go_at_call 61; refine (HC _).out.mono ?_; rintro e w5 ⟨rfl, rfl⟩)
        go_roundw
        case rel => exact ⟨k + 1, _, rfl, by omega, by go_num, HE.out.trans HE1.out, (by rw [HM.out]; exact HZ.out), by rw [HM.out]; exact ownsRow_ext HO.out HE1.out⟩
        case measure => simp [intOf]; omega
      | true =>
        rw [hc] at HC HM
        rw [if_pos rfl] at HM
        obtain ⟨v', w6, hrun6, ho6, hk6, _⟩ := app_one (P := Tryz.prog) Sz.rng_elem Sz.rng_coded (ownsRow_ext HO.out hE1) (Nat.le_trans HE.out.size hE1.size) (rngOf x) (by omega) (by omega)
        simp only [Rng.cells, rngOf, World.size_alloc] at hrun6
        have HE6 := hid (hk6.toExt (HE.out.trans hE1) (fun q hq => (row_block HO.out q hq).1))
        have HO6 := hid ho6
        clear ho6 hk6 hE1 hc
        go_wp2_with (first
          | (at_builtin; refine wpList_app rfl (.tmp 18) (.tmp 21) _ _ rfl rfl rfl hrun6 ?_)
          | (go_at_call 61; refine (HC _).out.mono ?_; rintro e w5 ⟨rfl, rfl⟩))
        go_roundw
        case rel => exact ⟨k + 1, _, rfl, by omega, by go_num, HE6.out, (fun h => by rw [HM.out] at h; simp at h), by rw [HM.out]; exact HO6.out⟩
        case measure => simp [intOf]; omega
    · obtain rfl : k = l.length := by omega
      rw [List.take_length] at hO hz
      have hrow := RowAt.of_row Sz.rng_coded hO hz
      have hln := selR_len0 l p
      have HN := hid (Sz.norm_c wr v _ hrow.1 (by omega))
      clear hE h3 hz hO hrow HO HZ
      go_wp2_with (go_at_call 62; refine (HN.out).mono ?_; rintro e w5 ⟨v5, rfl, hv5, hx5⟩; have HV5 := hid hv5; have HX5 := hid hx5; clear hv5 hx5)
      go_ret
      exact ⟨_, rfl, HV5.out, HE.out.trans HX5.out⟩
set_option maxRecDepth 100000 in
set_option maxHeartbeats 4000000 in
theorem rsizes_c (w : World) (v : Value) (l : List ClauseI) (p : ByteArray) (h : Sl w 3 v (l.map ClauseI.cells)) (hl : l.length ≤ 5000) (hp : p.size ≤ 1000) (hs : LightF l) : Calls Tryz.prog 28 #[v, .string p] w (RetQ (RowAt Rng.cells 2 (selR l p)) w) := by
  obtain ⟨A, c, rfl, h1, h2, h3⟩ := sl_get h
  unfold maxLen at h2
  have HSz := hid hs
  clear h hs
  go_enter Tryz.func28, Tryz.ntmps28
  go_wp2_with fail
  go_loopw [5, 6] (fun v i wr => ∃ (k : Nat) (ov : Value), ov = v ∧ k ≤ l.length ∧ i = .int .i64 k ∧ Ext w wr ∧ ((selR (l.take k) p).length = 0 → v = .slice none 0 0) ∧ wr.ownsRow w.heap.size 40 2 v (selR (l.take k) p).length ((selR (l.take k) p).map Rng.cells).flatten) (fun _ i _ => l.length - (intOf i).toNat)
  case atStart => exact ⟨0, _, rfl, by omega, rfl, Ext.refl _, (fun _ => rfl), ownsRow_nil _ _ _ _⟩
  case round =>
    obtain ⟨k, v, rfl, hk, rfl, hE, hz, hO⟩ := hrel
    have HE := hid hE
    have HO := hid hO
    have HZ := hid hz
    by_cases hlt : k < l.length
    · obtain ⟨b', o, rfl, lb, hcell⟩ := h3 (by omega)
      have c0 := hE.cell (hcell k hlt 0 _ rfl)
      have c1 := hE.cell (hcell k hlt 1 _ rfl)
      have c2 := hE.cell (hcell k hlt 2 _ rfl)
      rw [Nat.add_zero] at c0
      have lbr := Nat.lt_of_lt_of_le lb hE.size
      have HM := hid (selR_take (p := p) hlt)
      have hln := selR_len l p k
      have hsz := HSz.out _ (List.getElem_mem hlt)
      clear hcell h3 hE hz hO
      generalize selR (l.take k) p = acc at HO HZ HM hln
      generalize l[k] = x at c0 c1 c2 HM hsz
      have HC := fun W => hid (rcovers_c x.pre p W (by unfold maxLen; omega) (by unfold maxLen; omega))
      cases hc : cov x.pre p with
      | false =>
        rw [hc] at HC HM
        rw [if_neg Bool.false_ne_true] at HM
        clear hc
        go_wp2_with (go_at_call 48; refine (HC _).out.mono ?_; rintro e w5 ⟨rfl, rfl⟩)
        go_roundw
        case rel => exact ⟨k + 1, _, rfl, by omega, by go_num, HE.out, (by rw [HM.out]; exact HZ.out), by rw [HM.out]; exact HO.out⟩
        case measure => simp [intOf]; omega
      | true =>
        rw [hc] at HC HM
        rw [if_pos rfl] at HM
        obtain ⟨v', w6, hrun6, ho6, hk6, _⟩ := app_one (P := Tryz.prog) Sz.rng_elem Sz.rng_coded HO.out HE.out.size (rngOf x) (by omega) (by omega)
        simp only [Rng.cells, rngOf] at hrun6
        have HE6 := hid (hk6.toExt HE.out (fun q hq => (row_block HO.out q hq).1))
        have HO6 := hid ho6
        clear ho6 hk6 hc
        go_wp2_with (first
          | (at_builtin; refine wpList_app rfl (.tmp 20) (.tmp 26) _ _ rfl rfl rfl hrun6 ?_)
          | (go_at_call 48; refine (HC _).out.mono ?_; rintro e w5 ⟨rfl, rfl⟩))
        go_roundw
        case rel => exact ⟨k + 1, _, rfl, by omega, by go_num, HE6.out, (fun h => by rw [HM.out] at h; simp at h), by rw [HM.out]; exact HO6.out⟩
        case measure => simp [intOf]; omega
    · obtain rfl : k = l.length := by omega
      rw [List.take_length] at hO hz
      have hrow := RowAt.of_row Sz.rng_coded hO hz
      have HR := hid hrow
      clear hE h3 hz hO hrow HO HZ
      go_wp2_with fail
      go_ret
      exact ⟨_, rfl, HR.out, HE.out⟩
end Go.Proofs.YtggbkjmedoooaaaGreatDoor
namespace Go.Proofs.YtggbkjmedoooaaaGreatDoor
set_option linter.unusedSimpArgs false
set_option linter.unusedVariables false
open Go.RowKit Go.Sort

/-- the last place of a slash below k (or -1) -/
def lastK (s : ByteArray) : Nat → Int
  | 0 => -1
  | k + 1 => if s.toList[k]? = some 47 then (k : Int) else lastK s k
set_option maxRecDepth 100000 in
set_option maxHeartbeats 1000000 in
theorem lastb_c (s : ByteArray) (w : World) (hs : s.size ≤ 100000) : Calls Tryz.prog 103 #[.string s, .int .u8 47] w (fun e w' => e = .returned (.int .i64 (lastK s s.size)) ∧ w = w') := by
  go_enter Tryz.func103, Tryz.ntmps103
  go_wp2_with fail
  go_loopw [5] (fun i wr => ∃ (k : Nat) (z : Int), k ≤ s.size ∧ i = .int .i64 z ∧ z = (k : Int) - 1 ∧ lastK s s.size = lastK s k ∧ wr = w) (fun i _ => (intOf i + 1).toNat)
  case atStart => exact ⟨s.size, _, Nat.le_refl _, rfl, rfl, rfl, rfl⟩
  case round =>
    obtain ⟨k, z, hk, rfl, hz, hL, rfl⟩ := hrel
    cases k with
    | succ m =>
      obtain rfl : z = (m : Int) := by omega
      have hm : m < s.size := by omega
      have hg := get_toList s m hm
      have hstep : lastK s (m + 1) = if s.toList[m]? = some 47 then (m : Int) else lastK s m := rfl
      rw [hg] at hstep
      by_cases h47 : s[m] = 47
      · rw [if_pos (by rw [h47])] at hstep
        have HL : Hid (lastK s s.size = (m : Int)) := hL.trans hstep
        have hb : ((s[m].toNat : Int) == 47) = true := by rw [h47]; rfl
        clear hL hstep hg hz
        go_wp2_with fail
        go_ret
        exact ⟨by rw [HL.out]; rfl, rfl⟩
      · rw [if_neg (by simpa using h47)] at hstep
        have hb : ((s[m].toNat : Int) == 47) = false := by
          simp only [beq_eq_false_iff_ne, ne_eq]
          intro h
          have h5 : s[m].toNat = 47 := by omega
          exact h47 (UInt8.toNat_inj.1 h5)
        have HL : Hid (lastK s s.size = lastK s m) := hL.trans hstep
        clear hL hstep hg hz
        go_wp2_with fail
        go_roundw
        case rel => exact ⟨m, (m : Int) - 1, by omega, by go_num, rfl, HL.out, trivial⟩
        case measure => simp [intOf]
    | zero =>
      have hz0 : decide ((0 : Int) ≤ z) = false := by simp; omega
      have HL : Hid (lastK s s.size = -1) := hL
      clear hz hL
      go_wp2_with fail
      go_ret
      exact ⟨by rw [HL.out]; rfl, rfl⟩

set_option maxRecDepth 100000 in
set_option maxHeartbeats 1000000 in
theorem last_c (s : ByteArray) (w : World) (hs : s.size ≤ 100000) : Calls Tryz.prog 82 #[.string s, .string ⟨#[47]⟩] w (fun e w' => e = .returned (.int .i64 (lastK s s.size)) ∧ w = w') := by
  go_enter Tryz.func82, Tryz.ntmps82
  go_wp2_with (go_at_call 103; refine (lastb_c _ _ hs).mono ?_; rintro e w' ⟨rfl, rfl⟩)
  go_ret
  exact ⟨rfl, rfl⟩
theorem lastK_bounds (s : ByteArray) : ∀ k, -1 ≤ lastK s k ∧ lastK s k < k
  | 0 => ⟨by simp [lastK], by simp [lastK]⟩
  | k + 1 => by
    have := lastK_bounds s k
    unfold lastK
    split
    · constructor <;> omega
    · constructor <;> omega
/-- all ahead of the last name -/
def parentK (s : ByteArray) : ByteArray := s.extract 0 (lastK s s.size).toNat
set_option maxRecDepth 100000 in
set_option maxHeartbeats 1000000 in
theorem parent_c (s : ByteArray) (w : World) (hs : s.size ≤ 100000) : Calls Tryz.prog 63 #[.string s] w (fun e w' => e = .returned (.string (parentK s)) ∧ w = w') := by
  have HL := hid (last_c s w hs)
  obtain ⟨b1, b2⟩ := lastK_bounds s s.size
  unfold parentK
  generalize lastK s s.size = z at HL b1 b2
  have e : max z 0 = (z.toNat : Int) := by omega
  have hz : z.toNat ≤ s.size := by omega
  clear b1 b2
  generalize hzn : z.toNat = j at e hz
  clear hzn
  go_enter Tryz.func63, Tryz.ntmps63
  go_wp2_with (go_at_call 82; refine (HL.out).mono ?_; rintro e' w' ⟨rfl, rfl⟩)
  go_ret
  exact ⟨rfl, rfl⟩
theorem lastK_spec (s : ByteArray) : ∀ n : Nat, (∀ j : Nat, j < n → s.toList[j]? = some 47 → (j : Int) ≤ lastK s n) ∧ (∀ k : Nat, lastK s n = k → s.toList[k]? = some 47)
  | 0 => ⟨fun j hj => by omega, fun k hk => by simp [lastK] at hk⟩
  | n + 1 => by
    obtain ⟨h1, h2⟩ := lastK_spec s n
    unfold lastK
    by_cases h : s.toList[n]? = some 47
    · rw [if_pos h]
      exact ⟨fun j hj _ => by omega, fun k hk => by obtain rfl : n = k := by omega
                                                    exact h⟩
    · rw [if_neg h]
      refine ⟨fun j hj hs => ?_, h2⟩
      by_cases e : j = n
      · subst e; exact absurd hs h
      · exact h1 j (by omega) hs
theorem cov_iff2 (q s : ByteArray) : cov q s = true ↔ q.toList = [] ∨ s.toList = q.toList ∨ (s.toList.take q.toList.length = q.toList ∧ s.toList[q.toList.length]? = some 47) := by
  rw [cov_iff, snoc_pre]
theorem parent_list (p : ByteArray) : (parentK p).toList = p.toList.take (lastK p p.size).toNat := extract_toList _ _
/-- Which prefixes cover what is ahead of the last name: those that cover the path and are other ones. -/
theorem cov_parent {p : ByteArray} (hp : p.toList.isEmpty = false) (q : ByteArray) : cov q (parentK p) = (!decide (q = p) && cov q p) := by
  have hne : p.toList ≠ [] := by intro h; rw [h] at hp; cases hp
  obtain ⟨s1, s2⟩ := lastK_spec p p.size
  obtain ⟨b1, b2⟩ := lastK_bounds p p.size
  have hsz := size_toList p
  rw [Bool.eq_iff_iff, Bool.and_eq_true, Bool.not_eq_true', decide_eq_false_iff_not, cov_iff2, cov_iff2, parent_list]
  have hqp : q = p ↔ q.toList = p.toList := ⟨fun h => by rw [h], toList_inj⟩
  rw [hqp]
  generalize q.toList = Q
  generalize hz : lastK p p.size = z at s1 s2 b1 b2 ⊢
  rw [← hsz] at b2 s1
  clear hz hsz hqp hp
  generalize p.toList = P at s1 s2 b2 hne ⊢
  by_cases h0 : z < 0
  · have hz0 : z.toNat = 0 := by omega
    have hno : ∀ j : Nat, P[j]? ≠ some 47 := fun j hj => by
      obtain ⟨hjl, _⟩ := List.getElem?_eq_some_iff.1 hj
      have := s1 j hjl hj
      omega
    rw [hz0, List.take_zero]
    constructor
    · rintro (h | h | ⟨_, h⟩)
      · subst h; exact ⟨fun e => hne e.symm, .inl rfl⟩
      · subst h; exact ⟨fun e => hne e.symm, .inl rfl⟩
      · simp at h
    · rintro ⟨h1, h | h | ⟨_, h⟩⟩
      · exact .inl h
      · exact absurd h.symm h1
      · exact absurd h (hno _)
  · obtain ⟨k, rfl⟩ : ∃ k : Nat, z = k := ⟨z.toNat, by omega⟩
    have hk := s2 k rfl
    have hkl : k < P.length := by omega
    rw [Int.toNat_natCast]
    have hA : (P.take k).length = k := by rw [List.length_take]; omega
    constructor
    · rintro (h | h | ⟨h1, h2⟩)
      · subst h; exact ⟨fun e => hne e.symm, .inl rfl⟩
      · have hql : Q.length = k := by rw [← h, hA]
        refine ⟨fun e => by rw [e] at hql; omega, .inr (.inr ⟨by rw [hql]; exact h, by rw [hql]; exact hk⟩)⟩
      · rw [List.getElem?_take] at h2
        split at h2
        · rename_i hlt
          rw [List.take_take, Nat.min_eq_left (by omega)] at h1
          exact ⟨fun e => by rw [e] at hlt; omega, .inr (.inr ⟨h1, h2⟩)⟩
        · cases h2
    · rintro ⟨h1, h | h | ⟨h2, h3⟩⟩
      · exact .inl h
      · exact absurd h.symm h1
      · obtain ⟨hql, _⟩ := List.getElem?_eq_some_iff.1 h3
        have hle := s1 _ hql h3
        have hle : Q.length ≤ k := by omega
        by_cases e : Q.length = k
        · exact .inr (.inl (by rw [← e]; exact h2))
        · refine .inr (.inr ⟨?_, ?_⟩)
          · rw [List.take_take, Nat.min_eq_left hle]; exact h2
          · rw [List.getElem?_take, if_pos (by omega)]; exact h3
/-- The clauses whose prefix covers a path and is another one. -/
def abvF (f : List ClauseI) (p : ByteArray) : List ClauseI := f.filter fun c => !decide (c.pre = p) && cov c.pre p
theorem sel_parent (f : List ClauseI) {p : ByteArray} (hp : p.toList.isEmpty = false) : selR f (parentK p) = selR (abvF f p) p := by
  unfold selR abvF
  rw [List.filter_filter]
  congr 1
  refine List.filter_congr fun c _ => ?_
  rw [cov_parent hp]
  cases cov c.pre p <;> simp
theorem sel_empty (f : List ClauseI) {p : ByteArray} (hp : p.toList.isEmpty = true) : selR (abvF f p) p = [] := by
  unfold selR abvF
  rw [List.filter_filter, List.filter_eq_nil_iff.2, List.map_nil]
  intro c _
  have hp' : p.toList = [] := List.isEmpty_iff.1 hp
  have : cov c.pre p = true → c.pre = p := by
    rw [cov_iff2, hp']
    rintro (h | h | ⟨_, h⟩)
    · exact toList_inj (h.trans hp'.symm)
    · exact toList_inj (h.symm.trans hp'.symm)
    · simp at h
  by_cases h : cov c.pre p = true
  · simp [this h]
  · simp [h]
/-- What filter.above answers. -/
noncomputable def abvL (f : List ClauseI) (p : ByteArray) : List Rng := if p.toList.isEmpty then [] else nf (sizes (selR f (parentK p)))
theorem abvL_mem (f : List ClauseI) (p : ByteArray) (n : Int) : sizes (abvL f p) n ↔ sizes (selR (abvF f p) p) n := by
  unfold abvL
  cases h : p.toList.isEmpty with
  | true => rw [if_pos rfl, sel_empty f h]
  | false =>
    rw [if_neg Bool.false_ne_true, ← sel_parent f h]
    obtain ⟨h1, h2, _⟩ := nf_form (selR f (parentK p))
    rw [sizes_form h1, h2]
theorem abvL_len (f : List ClauseI) (p : ByteArray) : (abvL f p).length ≤ f.length := by
  unfold abvL
  split
  · simp
  · exact Nat.le_trans (nf_form _).2.2 (selR_len0 _ _)
theorem parent_size (p : ByteArray) : (parentK p).size ≤ p.size := by
  have h := parent_list p
  rw [← size_toList, ← size_toList, h, List.length_take]
  omega
set_option maxRecDepth 100000 in
set_option maxHeartbeats 1000000 in
theorem above_c (w : World) (v : Value) (l : List ClauseI) (p : ByteArray) (h : Sl w 3 v (l.map ClauseI.cells)) (hl : l.length ≤ 5000) (hp : p.size ≤ 1000) (hs : LightF l) : Calls Tryz.prog 45 #[v, .string p] w (RetQ (RowAt Rng.cells 2 (abvL l p)) w) := by
  have HP := fun W => hid (parent_c p W (by omega))
  have hps := parent_size p
  have HS := fun W (hW : Ext w W) => hid (fsizes_c W v l (parentK p) (h.ext hW) hl (by omega) hs)
  obtain ⟨A, c, rfl, _⟩ := sl_get h
  unfold abvL
  generalize nf (sizes (selR l (parentK p))) = r at HS ⊢
  generalize parentK p = q at HP HS hps
  clear h hs
  cases he : p.toList.isEmpty with
  | true =>
    clear HP HS
    rw [if_pos rfl]
    go_enter Tryz.func45, Tryz.ntmps45
    go_wp2_with fail
    go_ret
    exact ⟨_, rfl, RowAt.nil _, Ext.refl _⟩
  | false =>
    rw [if_neg Bool.false_ne_true]
    go_enter Tryz.func45, Tryz.ntmps45
    go_wp2_with (first
      | (go_at_call 44; refine ((HS _ (Ext.refl _)).out).mono ?_; rintro e w5 ⟨v5, rfl, hv5, hx5⟩; have HV5 := hid hv5; have HX5 := hid hx5; clear hv5 hx5)
      | (go_at_call 63; refine ((HP _).out).mono ?_; rintro e w' ⟨rfl, rfl⟩))
    go_ret
    exact ⟨_, rfl, HV5.out, HX5.out⟩
end Go.Proofs.YtggbkjmedoooaaaGreatDoor
namespace Go.Proofs.YtggbkjmedoooaaaGreatDoor
set_option linter.unusedSimpArgs false
set_option linter.unusedVariables false
open Go.RowKit Go.Sort

/-- Of a prefix what those above it do not have. -/
noncomputable def ownF (f : List ClauseI) (p : ByteArray) : List Rng := nf fun n => sizes (selR f p) n ∧ ¬ sizes (selR (abvF f p) p) n
def mkC (p : ByteArray) (r : Rng) : ClauseI := ⟨p, r.lo, r.hi⟩
noncomputable def normL (f : List ClauseI) (ps : List ByteArray) : List ClauseI := ps.flatMap fun p => (ownF f p).map (mkC p)
noncomputable def normF (f : List ClauseI) : List ClauseI := normL f (preS f)
theorem normL_take (f : List ClauseI) (ps : List ByteArray) (k : Nat) (h : k < ps.length) : normL f (ps.take (k + 1)) = normL f (ps.take k) ++ (ownF f ps[k]).map (mkC ps[k]) := by
  unfold normL
  rw [List.take_succ_eq_append_getElem h, List.flatMap_append]
  simp
theorem ownF_eq (f : List ClauseI) (p : ByteArray) : (nf fun n => sizes (nf (sizes (selR f p))) n ∧ ¬ sizes (abvL f p) n) = ownF f p := by
  unfold ownF
  refine nf_congr fun n => ?_
  rw [abvL_mem, sizes_form (nf_form _).1, (nf_form _).2.1]
theorem form_lo : ∀ {l : List Rng}, IsForm l → ∀ (k : Nat) (h : k < l.length), 2 * (k : Int) ≤ l[k].lo := fun {l} hf k => by
  induction k with
  | zero => intro h; have := (hf.ok _ (List.getElem_mem h)).1; omega
  | succ k ih =>
    intro h
    have h1 := ih (by omega)
    have h2 := hf.ok _ (List.getElem_mem (show k < l.length by omega))
    have h3 := List.pairwise_iff_getElem.1 hf.gap k (k + 1) (by omega) h (by omega)
    unfold Ok1 at h2
    omega
theorem form_len {l : List Rng} (h : IsForm l) : l.length ≤ 101 := by
  rcases Nat.lt_or_ge 101 l.length with h1 | h1
  · have h2 := form_lo h 101 h1
    have h3 := h.ok _ (List.getElem_mem h1)
    unfold Ok1 at h3
    omega
  · exact h1
theorem diff_form (a b : List Rng) : IsForm (nf fun n => sizes a n ∧ ¬ sizes b n) ∧ ∀ n, memS (nf fun n => sizes a n ∧ ¬ sizes b n) n ↔ (sizes a n ∧ ¬ sizes b n) := by
  obtain ⟨fa1, fa2, _⟩ := nf_form a
  obtain ⟨fb1, fb2, _⟩ := nf_form b
  have hrs : ∀ n, sizes (Sz.restL 0 (nf (sizes b))) n ↔ 0 ≤ n ∧ n ≤ 200 ∧ ¬ sizes b n := fun n => by
    rw [Sz.restL_mem _ 0 (Int.le_refl _) fb1 (fun r hr => (fb1.ok r hr).1), fb2]
    constructor
    · rintro ⟨a, b, c⟩; exact ⟨b, a, c⟩
    · rintro ⟨a, b, c⟩; exact ⟨b, a, c⟩
  obtain ⟨g1, g2, _⟩ := nf_form (Sz.restL 0 (nf (sizes b)))
  have hset : (nf fun n => sizes a n ∧ ¬ sizes b n) = nf (sizes (Sz.caps (nf (sizes a)) (nf (sizes (Sz.restL 0 (nf (sizes b))))))) := nf_congr fun n => by
    rw [Sz.mem_caps fa1 g1, fa2, g2, hrs]
    constructor
    · rintro ⟨h, k⟩; exact ⟨h, h.1, h.2.1, k⟩
    · rintro ⟨h, _, _, k⟩; exact ⟨h, k⟩
  rw [hset]
  obtain ⟨k1, k2, _⟩ := nf_form (Sz.caps (nf (sizes a)) (nf (sizes (Sz.restL 0 (nf (sizes b))))))
  refine ⟨k1, fun n => ?_⟩
  rw [k2, Sz.mem_caps fa1 g1, fa2, g2, hrs]
  constructor
  · rintro ⟨h, _, _, k⟩; exact ⟨h, k⟩
  · rintro ⟨h, k⟩; exact ⟨h, h.1, h.2.1, k⟩
theorem ownF_is (f : List ClauseI) (p : ByteArray) : IsForm (ownF f p) ∧ ∀ n, memS (ownF f p) n ↔ (sizes (selR f p) n ∧ ¬ sizes (selR (abvF f p) p) n) := diff_form _ _
theorem ownF_len (f : List ClauseI) (p : ByteArray) : (ownF f p).length ≤ 101 := form_len (ownF_is f p).1
theorem normL_len (f : List ClauseI) : ∀ ps : List ByteArray, (normL f ps).length ≤ 101 * ps.length
  | [] => by simp [normL]
  | p :: ps => by
    have h1 := normL_len f ps
    have h2 := ownF_len f p
    have e : normL f (p :: ps) = (ownF f p).map (mkC p) ++ normL f ps := by simp [normL]
    rw [e, List.length_append, List.length_map, List.length_cons]
    omega
theorem map_take1 {α β : Type} (g : α → β) (l : List α) (k : Nat) (h : k < l.length) : (l.take (k + 1)).map g = (l.take k).map g ++ [g l[k]] := by
  rw [List.take_succ_eq_append_getElem h, List.map_append]; rfl
theorem Sl.keepC {w w' : World} {S : Nat → Prop} {sz : Nat} {v : Value} {xs : List (List Value)} (h : Sl w sz v xs) (he : Keep S w w') (hs : 0 < xs.length → ∀ b o n c, v = .slice (some ⟨b, o, none⟩) n c → ¬ S b) : Sl w' sz v xs := by
  obtain ⟨A, c, h1, h2, h3, h4⟩ := h
  refine ⟨A, c, h1, h2, h3, fun hn => ?_⟩
  obtain ⟨b, o, h5, h6, h7⟩ := h4 hn
  refine ⟨b, o, h5, Nat.lt_of_lt_of_le h6 he.size, fun k x j u hx hu => ?_⟩
  have hb := he.block b h6 (hs hn b o _ _ (by rw [h1, h5]))
  have := h7 k x j u hx hu
  unfold World.cell? at this ⊢
  rw [hb]
  exact this
theorem clause_info : (Tryz.prog.info? 42).map (fun i => (i.zero, i.size, i.bytes)) = some (some (.agg #[.string ⟨#[]⟩, .int .i64 0, .int .i64 0]), 3, 32) := by kernel_rfl
theorem clause_elem : Elem Tryz.prog 22 42 3 32 := by
  obtain ⟨i0, h0, h1, h2, h3⟩ := info_parts clause_info
  exact ⟨Tryz.underlying22, i0, _, h0, h1, h2, h3, rfl⟩
set_option maxRecDepth 100000 in
set_option maxHeartbeats 4000000 in
theorem fnorm_c (w : World) (v : Value) (l : List ClauseI) (h : Sl w 3 v (l.map ClauseI.cells)) (hl : l.length ≤ 5000) (hs : LightF l) : Calls Tryz.prog 25 #[v] w (RetQ (RowAt ClauseI.cells 3 (normF l)) w) := by
  have HPr := hid (prefixes_c w v l h hl)
  have HSz := fun W (hW : Ext w W) (p : ByteArray) (hp : p.size ≤ 1000) => hid (fsizes_c W v l p (h.ext hW) hl hp hs)
  have HAb := fun W (hW : Ext w W) (p : ByteArray) (hp : p.size ≤ 1000) => hid (above_c W v l p (h.ext hW) hl hp hs)
  have HMi := fun W (p : ByteArray) (x y : Value) (hx : Sl W 2 x ((nf (sizes (selR l p))).map Rng.cells)) (hy : Sl W 2 y ((abvL l p).map Rng.cells)) => hid (Sz.minus8_f W x y _ _ hx hy (by have := form_len (nf_form (selR l p)).1; omega) (by
    unfold abvL
    split
    · simp
    · have := form_len (nf_form (selR l (parentK p))).1; omega))
  have HMi2 := fun W p x y hx hy => by
    have := HMi W p x y hx hy
    rw [ownF_eq] at this
    exact this
  have HPs : Hid (∀ p ∈ preS l, p.size ≤ 1000) := fun p hp => by
    obtain ⟨c, hc, rfl⟩ := (mem_preS l p).1 hp
    have := hs c hc
    omega
  have hpl := preS_len l
  have HAll : Hid (normF l = normL l (preS l)) := rfl
  obtain ⟨A, c, rfl, _⟩ := sl_get h
  generalize preS l = ps at HPr HPs hpl HAll
  clear h hs HMi
  go_enter Tryz.func25, Tryz.ntmps25
  go_wp2_with fail
  go_step3
  go_wp2_with fail
  go_step3
  go_wp2_with (go_at_call 42; refine (HPr.out).mono ?_; rintro e w2 ⟨v2, rfl, hv2, hx2⟩; have HX2 := hid hx2; obtain ⟨A2, c2, rfl, p1, p2, p3⟩ := sl_get hv2.1; clear hv2 hx2 HPr)
  unfold maxLen at p2
  go_loopw [3, 12] (fun v i wr => ∃ (k : Nat) (ov : Value), ov = v ∧ k ≤ ps.length ∧ i = .int .i64 k ∧ Ext w2 wr ∧ ((normL l (ps.take k)).length = 0 → v = .slice none 0 0) ∧ wr.ownsRow w2.heap.size 42 3 v (normL l (ps.take k)).length ((normL l (ps.take k)).map ClauseI.cells).flatten) (fun _ i _ => ps.length - (intOf i).toNat)
  case atStart => exact ⟨0, _, rfl, by omega, rfl, Ext.refl _, (fun _ => rfl), ownsRow_nil _ _ _ _⟩
  case round =>
    obtain ⟨k, v, rfl, hk, rfl, hE, hz, hO⟩ := hrel
    have HE := hid hE
    have HO := hid hO
    have HZ := hid hz
    by_cases hlt : k < ps.length
    · obtain ⟨b', o, rfl, lb, hcell⟩ := p3 (by omega)
      have c0 := hE.cell (hcell k hlt 0 (.string ps[k]) rfl)
      simp only [Nat.mul_one, Nat.add_zero] at c0
      have lbr := Nat.lt_of_lt_of_le lb hE.size
      have HM := hid (normL_take l ps k hlt)
      have hln := normL_len l (ps.take k)
      rw [List.length_take] at hln
      have hpz := HPs.out _ (List.getElem_mem hlt)
      have hol := ownF_len l ps[k]
      have HS := fun W (hW : Ext wr W) => HSz W (HX2.out.trans (hE.trans hW)) ps[k] hpz
      have HA := fun W (hW : Ext wr W) => HAb W (HX2.out.trans (hE.trans hW)) ps[k] hpz
      have HM2 := fun W => HMi2 W ps[k]
      clear hcell p3 hE hz hO HSz HAb HMi2
      generalize normL l (ps.take k) = acc at HO HZ HM hln
      generalize ps[k] = p at c0 HM HS HA HM2 hol hpz
      generalize ownF l p = own at HM HM2 hol
      generalize nf (sizes (selR l p)) = sa at HS HM2
      generalize abvL l p = sb at HA HM2
      cases h0 : ((own.length : Int) == 0) with
      | true =>
        have hown : own = [] := List.eq_nil_of_length_eq_zero (by simp at h0; exact congrArg List.length h0)
        go_wp2_with (first
          | (go_at_call 43; refine ((HM2 _ _ _ HVs.out.1 HVa.out.1).out).mono ?_; rintro e w6 ⟨v6, rfl, hv6, hx6⟩; have HX6 := hid (HX5.out.trans hx6); obtain ⟨A6, c6, rfl, q1, q2, q3⟩ := sl_get hv6.1.1; clear hv6 hx6)
          | (go_at_call 45; refine ((HA _ HX4.out).out).mono ?_; rintro e w5 ⟨v5, rfl, hv5, hx5⟩; have HVa := hid hv5; have HVs := hid (HVs.out.ext hx5); have HX5 := hid (HX4.out.trans hx5); clear hv5 hx5)
          | (go_at_call 44; refine ((HS _ (Ext.refl _)).out).mono ?_; rintro e w4 ⟨v4, rfl, hv4, hx4⟩; have HVs := hid hv4; have HX4 := hid hx4; clear hv4 hx4))
        have HM0 : Hid (normL l (ps.take (k + 1)) = acc) := by unfold Hid; rw [HM.out, hown]; simp
        exact ⟨⟨k + 1, _, rfl, by omega, by go_num, HE.out.trans HX6.out, (by rw [HM0.out]; exact HZ.out), by rw [HM0.out]; exact ownsRow_ext HO.out HX6.out⟩, by simp [intOf]; omega⟩
      | false =>
        have HFr : Hid (∀ q, v.ownBlock = some q → q < wr.heap.size) := fun q hq => (row_block HO.out q hq).2
        go_wp2_with (first
          | (go_at_call 43; refine ((HM2 _ _ _ HVs.out.1 HVa.out.1).out).mono ?_; rintro e w6 ⟨v6, rfl, hv6, hx6⟩; have HX6 := hid (HX5.out.trans hx6); have HV6 := hid hv6.1.1; have HF6 := hid (hv6.2.early HX5.out); obtain ⟨A6, c6, rfl, q1, q2, q3⟩ := sl_get hv6.1.1; clear hv6 hx6 q3)
          | (go_at_call 45; refine ((HA _ HX4.out).out).mono ?_; rintro e w5 ⟨v5, rfl, hv5, hx5⟩; have HVa := hid hv5; have HVs := hid (HVs.out.ext hx5); have HX5 := hid (HX4.out.trans hx5); clear hv5 hx5)
          | (go_at_call 44; refine ((HS _ (Ext.refl _)).out).mono ?_; rintro e w4 ⟨v4, rfl, hv4, hx4⟩; have HVs := hid hv4; have HX4 := hid hx4; clear hv4 hx4))
        unfold maxLen at q2
        have hnz : 0 < own.length := by
          rcases Nat.eq_zero_or_pos own.length with h | h
          · rw [h] at h0; cases h0
          · exact h
        have HNb : Hid (∀ q, v.ownBlock = some q → ∀ b o, A6 = some ⟨b, o, none⟩ → q ≠ b) := fun q hq b o e => by
          have h1 := HFr.out q hq
          have h2 := HF6.out b o _ _ (by rw [e])
          omega
        go_loopw [3, 28] (fun v i WQ => ∃ (j : Nat) (ov : Value), ov = v ∧ j ≤ own.length ∧ i = .int .i64 j ∧ Ext w2 WQ ∧ Sl WQ 2 (.slice A6 own.length c6) (own.map Rng.cells) ∧ Hid (∀ q, v.ownBlock = some q → ∀ b o, A6 = some ⟨b, o, none⟩ → q ≠ b) ∧ ((acc ++ (own.take j).map (mkC p)).length = 0 → v = .slice none 0 0) ∧ WQ.ownsRow w2.heap.size 42 3 v (acc ++ (own.take j).map (mkC p)).length ((acc ++ (own.take j).map (mkC p)).map ClauseI.cells).flatten) (fun _ i _ => own.length - (intOf i).toNat)
        case atStart => exact ⟨0, _, rfl, by omega, rfl, HE.out.trans HX6.out, HV6.out, HNb, by simpa using HZ.out, by simpa using ownsRow_ext HO.out HX6.out⟩
        case round =>
          obtain ⟨j, v, rfl, hj, rfl, hEi, hsi, hne, hzi, hOi⟩ := hrel
          have HEi := hid hEi
          have HSi := hid hsi
          have HOi := hid hOi
          have HZi := hid hzi
          by_cases hjlt : j < own.length
          · obtain ⟨A7, c7, e7, _, _, r3⟩ := sl_get hsi
            injection e7 with eA _ ec
            subst eA ec
            obtain ⟨b2, o2, rfl, lb2, hcell2⟩ := r3 (by omega)
            have y0 := hcell2 j hjlt 0 _ rfl
            have y1 := hcell2 j hjlt 1 _ rfl
            rw [Nat.add_zero] at y0
            have HSj := hid (map_take1 (mkC p) own j hjlt)
            have hlj : (acc ++ (own.take j).map (mkC p)).length ≤ 1000000 := by rw [List.length_append, List.length_map, List.length_take]; omega
            clear hEi hOi hsi hzi hcell2 r3 HNb HV6 HF6 HFr HZ HO HE
            generalize own[j] = y at y0 y1 HSj
            have HAcc : Hid (acc ++ (own.take (j + 1)).map (mkC p) = (acc ++ (own.take j).map (mkC p)) ++ [mkC p y]) := by unfold Hid; rw [HSj.out, List.append_assoc]
            generalize acc ++ (own.take j).map (mkC p) = ac at HOi hlj HAcc HZi
            have hE5 := Ext.alloc wr (.cells #[.int .i64 y.lo, .int .i64 y.hi] 40)
            obtain ⟨v', w4, hrun, ho4, hk4, hbl⟩ := app_one (P := Tryz.prog) clause_elem clause_coded (ownsRow_ext HOi.out hE5) (HEi.out.trans hE5).size (mkC p y) hlj (by omega)
            simp only [ClauseI.cells, mkC, World.size_alloc] at hrun
            have HO4 := hid ho4
            have HE4 : Hid (Ext w2 w4) := hk4.toExt (HEi.out.trans hE5) (fun q hq => (row_block HOi.out q hq).1)
            have HS4 : Hid (Sl w4 2 (.slice (some ⟨b2, o2, none⟩) own.length c6) (own.map Rng.cells)) := Sl.keepC (HSi.out.ext hE5) hk4 (fun _ b o n c e hb => hne.out b hb b o (by injection e) rfl)
            have HN4 : Hid (∀ q, v'.ownBlock = some q → ∀ b o, (some ⟨b2, o2, none⟩ : Option Addr) = some ⟨b, o, none⟩ → q ≠ b) := fun q hq b o e => by
              rcases hbl with h | h
              · exact hne.out q (by rw [← h]; exact hq) b o e
              · have h1 := h q hq
                have h2 := hE5.size
                injection e with e
                injection e with e
                omega
            clear ho4 hk4 hbl hE5 hne HSi
            go_wp2_with (at_builtin; refine wpList_app rfl (.tmp 32) (.tmp 36) _ _ rfl rfl rfl hrun ?_)
            go_roundw
            case rel => exact ⟨j + 1, _, rfl, by omega, by go_num, HE4.out, HS4.out, HN4, (fun h => by rw [HAcc.out] at h; simp at h), by rw [HAcc.out]; exact HO4.out⟩
            case measure => simp [intOf]; omega
          · obtain rfl : j = own.length := by omega
            rw [List.take_length] at hOi hzi
            have HOj := hid hOi
            have HZj := hid hzi
            clear hEi hOi hsi hzi hne HOi HZi HNb HV6 HF6 HFr HZ HO
            go_wp2_with fail
            exact ⟨⟨k + 1, _, rfl, by omega, by go_num, HEi.out, (by rw [HM.out]; exact HZj.out), by rw [HM.out]; exact HOj.out⟩, by simp [intOf]; omega⟩
    · obtain rfl : k = ps.length := by omega
      rw [List.take_length] at hO hz
      have hrow := RowAt.of_row clause_coded hO hz
      have HR := hid hrow
      clear hE p3 hz hO hrow HO HZ HSz HAb HMi2
      go_wp2_with fail
      go_ret
      exact ⟨_, rfl, by rw [HAll.out]; exact HR.out, HX2.out.trans HE.out⟩
end Go.Proofs.YtggbkjmedoooaaaGreatDoor
