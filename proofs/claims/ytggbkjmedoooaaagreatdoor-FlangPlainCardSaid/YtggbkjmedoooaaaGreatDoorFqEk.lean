/-
  The document's Norm.
-/
import Derived.Test.YtggbkjmedoooaaaGreatDoorFqDk
import Derived.Test.YtggbkjmedoooaaaGreatDoorQdB
import Derived.Test.YtggbkjmedoooaaaGreatDoorAwT
namespace Go.Proofs.YtggbkjmedoooaaaGreatDoor
set_option linter.unusedSimpArgs false
set_option linter.unusedVariables false
open Go.RowKit Go.Sort

theorem row_snocC {w : World} {B : Nat} {v : Value} {acc : List ClauseI} {x : ClauseI} {e : TypeId} (h : w.ownsRow B e 3 v (acc.length + 1) ((acc.map ClauseI.cells).flatten ++ x.cells)) : w.ownsRow B e 3 v (acc ++ [x]).length ((acc ++ [x]).map ClauseI.cells).flatten := by
  rw [List.length_append, List.map_append, List.flatten_append]
  simpa using h
set_option maxRecDepth 100000 in
set_option maxHeartbeats 8000000 in
theorem rnorm_c (w : World) (v : Value) (l : List ClauseI) (h : Sl w 3 v (l.map ClauseI.cells)) (hl : l.length ≤ 5000) (hs : LightF l) : Calls Tryz.prog 15 #[v] w (RetQ (RowAt ClauseI.cells 3 (normF l)) w) := by
  have HPr := hid (rprefixes_c w v l h hl)
  have HSz := fun W (hW : Ext w W) (p : ByteArray) (hp : p.size ≤ 1000) => hid (rsizes_c W v l p (h.ext hW) hl hp hs)
  have HAb := fun W (hW : Ext w W) (p : ByteArray) (hp : p.size ≤ 1000) => hid (rabove_c W v l p (h.ext hW) hl hp hs)
  have HSa := fun W (x : Value) (p : ByteArray) (hp : p.size ≤ 1000) (hx : Sl W 3 x ((abvF l p).map ClauseI.cells)) => hid (rsizes_c W x (abvF l p) p hx (by have := abvF_len l p l.length; rw [List.take_length] at this; omega) hp (fun c hc => hs c (List.mem_filter.1 hc).1))
  have HTw := fun W (p : ByteArray) (x y : Value) (hx : Sl W 2 x ((selR l p).map Rng.cells)) (hy : Sl W 2 y ((selR (abvF l p) p).map Rng.cells)) => (by
    have := Sz.rtwo2_f W x y _ _ hx hy
    exact hid this : Hid (Calls Tryz.prog 27 #[x, y, .int .i64 2] W (RetQ (fun v' w' => RowAt Rng.cells 2 (ownF l p) v' w' ∧ Sz.Fresh W v') W)))
  have HPs : Hid (∀ p ∈ preS l, p.size ≤ 1000) := fun p hp => by
    obtain ⟨c, hc, rfl⟩ := (mem_preS l p).1 hp
    have := hs c hc
    omega
  have hpl := preS_len l
  have HAll : Hid (normF l = normL l (preS l)) := rfl
  obtain ⟨A, c, rfl, _⟩ := sl_get h
  generalize preS l = ps at HPr HPs hpl HAll
  clear h hs
  go_enter Tryz.func15, Tryz.ntmps15
  go_wp2_with (go_at_call 26; refine (HPr.out).mono ?_; rintro e w2 ⟨v2, rfl, hv2, hx2⟩; have HX2 := hid hx2; obtain ⟨A2, c2, rfl, p1, p2, p3⟩ := sl_get hv2.1; clear hv2 hx2 HPr)
  unfold maxLen at p2
  go_loopw [3, 5] (fun v i wr => ∃ (k : Nat) (ov : Value), ov = v ∧ k ≤ ps.length ∧ i = .int .i64 k ∧ Ext w2 wr ∧ ((normL l (ps.take k)).length = 0 → v = .slice none 0 0) ∧ wr.ownsRow w2.heap.size 42 3 v (normL l (ps.take k)).length ((normL l (ps.take k)).map ClauseI.cells).flatten) (fun _ i _ => ps.length - (intOf i).toNat)
  case atStart => exact ⟨0, _, rfl, by omega, rfl, Ext.refl _, (fun _ => rfl), ownsRow_nil _ _ _ _⟩
  case round =>
    obtain ⟨k, v, rfl, hk, rfl, hE, hz, hO⟩ := hrel
    have HE := hid hE
    have HO := hid hO
    have HZ := hid hz
    by_cases hlt : k < ps.length
    · obtain ⟨b', o, rfl, lb, hcell⟩ := p3 (by omega)
      have c0 := hE.cell (hcell k hlt 0 (.string ps[k]) rfl)
      simp only [Nat.mul_one, Nat.add_zero] at c0
      have HC0 : Hid (∀ W, Ext w2 W → W.cell? ⟨b', o + k, none⟩ = some (.string ps[k])) := fun W hW => by
        have := hW.cell (hcell k hlt 0 (.string ps[k]) rfl)
        rwa [Nat.mul_one, Nat.add_zero] at this
      have HLb : Hid (b' < w2.heap.size) := lb
      have lbr := Nat.lt_of_lt_of_le lb hE.size
      have HM := hid (normL_take l ps k hlt)
      have hln := normL_len l (ps.take k)
      rw [List.length_take] at hln
      have hpz := HPs.out _ (List.getElem_mem hlt)
      have hol := ownF_len l ps[k]
      have HS := fun W (hW : Ext wr W) => HSz W (HX2.out.trans (hE.trans hW)) ps[k] hpz
      have HA := fun W (hW : Ext wr W) => HAb W (HX2.out.trans (hE.trans hW)) ps[k] hpz
      have HS2 := fun W x => HSa W x ps[k] hpz
      have HT := fun W => HTw W ps[k]
      clear hcell p3 hE hz hO HSz HAb HSa HTw
      generalize normL l (ps.take k) = acc at HO HZ HM hln
      generalize ps[k] = p at c0 HC0 HM HS HA HS2 HT hol hpz
      generalize ownF l p = own at HM HT hol
      generalize selR l p = sa at HS HT
      generalize abvF l p = ab at HA HS2 HT
      generalize selR ab p = sb at HS2 HT
      go_wp2_with fail
      refine wp_region_any_order (by kernel_rfl) (by kernel_rfl) (by kernel_rfl) ?_
      repeat (first
        | (refine AWq.val rfl rfl rfl rfl (fun K hK => ?_); go_big_quiet_op; refine hK _ ?_; clear hK K)
        | (refine AWq.skip rfl rfl rfl ?_; simp only [Act.put, List.setIfInBounds_toArray, List.set_cons_succ, List.set_cons_zero])
        | (refine AWq.callQ (RowAt Rng.cells 2 sa) (RowAt.steady _ _ _) rfl Tryz.func28 (by kernel_rfl) (by kernel_rfl) rfl rfl rfl (fun wc hc => ?_) ?_; (· (simp only [argsOf, anyAt, ↓reduceIte, Nat.reduceEqDiff, Array.getD_eq_getD_getElem?, List.getElem?_toArray, List.getElem?_cons_succ, List.getElem?_cons_zero, Option.getD_some]; exact (HS _ hc).out)))
        | (refine AWq.callQ (RowAt Rng.cells 2 sb) (RowAt.steady _ _ _) rfl Tryz.func28 (by kernel_rfl) (by kernel_rfl) rfl rfl rfl (fun wc hc => ?_) ?_; (· (simp only [argsOf, anyAt, ↓reduceIte, Nat.reduceEqDiff, Array.getD_eq_getD_getElem?, List.getElem?_toArray, List.getElem?_cons_succ, List.getElem?_cons_zero, Option.getD_some]; intro y hy; exact (HS2 _ _ hy.1).out)))
        | (refine AWq.callQ (RowAt ClauseI.cells 3 ab) (RowAt.steady _ _ _) rfl Tryz.func29 (by kernel_rfl) (by kernel_rfl) rfl rfl rfl (fun wc hc => ?_) ?_; (· (simp only [argsOf, anyAt, ↓reduceIte, Nat.reduceEqDiff, Array.getD_eq_getD_getElem?, List.getElem?_toArray, List.getElem?_cons_succ, List.getElem?_cons_zero, Option.getD_some]; exact (HA _ hc).out)))
        | (refine AWq.callQ ((fun v w' => RowAt Rng.cells 2 own v w' ∧ Sz.Fresh wr v)) ((fun v _ _ he h => ⟨h.1.ext he, h.2⟩)) rfl Tryz.func27 (by kernel_rfl) (by kernel_rfl) rfl rfl rfl (fun wc hc => ?_) ?_; (· (simp only [argsOf, anyAt, ↓reduceIte, Nat.reduceEqDiff, Array.getD_eq_getD_getElem?, List.getElem?_toArray, List.getElem?_cons_succ, List.getElem?_cons_zero, Option.getD_some]; intro y hy z hz; exact (HT _ _ _ hy.1 hz.1).out.mono fun e w' ⟨v', he, hr, hx⟩ => ⟨v', he, ⟨hr.1, hr.2.early hc⟩, hx⟩)))
        | (refine AWq.opQ ((fun v w' => RowAt Rng.cells 2 own v w' ∧ Sz.Fresh wr v)) ((fun v _ _ he h => ⟨h.1.ext he, h.2⟩)) rfl (fun a wc hc hl' => ⟨rfl, ?_⟩) ?_; (· (have e := hl' 33 (of_decide_eq_true (by kernel_rfl)); exact ⟨e, Ext.refl _⟩))))
      refine AWq.done rfl rfl rfl (fun w6 x6 => ?_)
      simp only [closeAny, Act.put, List.setIfInBounds_toArray, List.set_cons_succ, List.set_cons_zero]
      intro v6 hv6 _ _ _ _ _ _ _ _
      have HX6 := hid x6
      have HV6 := hid hv6.1.1
      have HF6 := hid hv6.2
      obtain ⟨A6, c6, rfl, q1, q2, _⟩ := sl_get hv6.1.1
      unfold maxLen at q2
      have HFr : Hid (∀ q, v.ownBlock = some q → q < wr.heap.size) := fun q hq => (row_block HO.out q hq).2
      have HNb : Hid (∀ q, v.ownBlock = some q → ∀ b o, A6 = some ⟨b, o, none⟩ → q ≠ b) := fun q hq b o e => by
        have h1 := HFr.out q hq
        have h2 := HF6.out b o _ _ (by rw [e])
        omega
      clear x6 hv6 HS HA HS2 HT
      go_wp2_with fail
      go_loopw [3, 7] (fun v i WQ => ∃ (j : Nat) (ov : Value), ov = v ∧ j ≤ own.length ∧ i = .int .i64 j ∧ Ext w2 WQ ∧ Sl WQ 2 (.slice A6 own.length c6) (own.map Rng.cells) ∧ Hid (∀ q, v.ownBlock = some q → ∀ b o, A6 = some ⟨b, o, none⟩ → q ≠ b) ∧ ((acc ++ (own.take j).map (mkC p)).length = 0 → v = .slice none 0 0) ∧ WQ.ownsRow w2.heap.size 42 3 v (acc ++ (own.take j).map (mkC p)).length ((acc ++ (own.take j).map (mkC p)).map ClauseI.cells).flatten) (fun _ i _ => own.length - (intOf i).toNat)
      case atStart => exact ⟨0, _, rfl, by omega, rfl, HE.out.trans HX6.out, HV6.out, HNb, by simpa using HZ.out, by simpa using ownsRow_ext HO.out HX6.out⟩
      case round =>
        obtain ⟨j, v, rfl, hj, rfl, hEi, hsi, hne, hzi, hOi⟩ := hrel
        have HEi := hid hEi
        have HSi := hid hsi
        have HOi := hid hOi
        have HZi := hid hzi
        by_cases hjlt : j < own.length
        · obtain ⟨A7, c7, e7, _, _, r3⟩ := sl_get hsi
          injection e7 with eA _ ec
          subst eA ec
          obtain ⟨b2, o2, rfl, lb2, hcell2⟩ := r3 (by omega)
          have y0 := hcell2 j hjlt 0 _ rfl
          have y1 := hcell2 j hjlt 1 _ rfl
          rw [Nat.add_zero] at y0
          have pc := HC0.out _ hEi
          have pl := Nat.lt_of_lt_of_le HLb.out hEi.size
          have HSj := hid (map_take1 (mkC p) own j hjlt)
          have hlj : (acc ++ (own.take j).map (mkC p)).length ≤ 1000000 := by rw [List.length_append, List.length_map, List.length_take]; omega
          clear hEi hOi hsi hzi hcell2 r3 HNb HV6 HF6 HFr HZ HO HE c0 lbr HX6
          generalize own[j] = y at y0 y1 HSj
          have HAcc : Hid (acc ++ (own.take (j + 1)).map (mkC p) = (acc ++ (own.take j).map (mkC p)) ++ [mkC p y]) := by unfold Hid; rw [HSj.out, List.append_assoc]
          generalize acc ++ (own.take j).map (mkC p) = ac at HOi hlj HAcc HZi
          go_wp2_with fail
          refine wp_region_two (pre := ?pre2) (z1 := ?z12) (z2 := ?z22) ?hpre2 ?hz12 ?hz22 (by kernel_rfl) (by kernel_rfl) (by kernel_rfl) (by kernel_rfl) (by kernel_rfl) ?_
          case hpre2 => (simp only [List.dropLast_cons_cons, List.dropLast_singleton]; first | done | exact rfl)
          case hz12 => (simp only [List.dropLast_cons_cons, List.dropLast_singleton, List.getLast?_cons_cons, List.getLast?_singleton]; first | done | exact rfl)
          case hz22 => (simp only [List.getLast?_cons_cons, List.getLast?_singleton]; first | done | exact rfl)
          repeat (first
            | (refine AWq.val rfl rfl rfl rfl (fun K hK => ?_); go_big_quiet_op; refine hK _ ?_; clear hK K)
            | (refine AWq.skip rfl rfl rfl ?_; simp only [Act.put, List.setIfInBounds_toArray, List.set_cons_succ, List.set_cons_zero])
            | (refine AWq.opV (NewSl 42 #[.string p, .int .i64 y.lo, .int .i64 y.hi] 1 1) (NewSl.steady _ _ _ _) rfl rfl rfl rfl (fun wc hc => ?_) ?_; (· (have hc' := hc.rule; clear hc; go_simp; dsimp only [Gives]; exact ⟨⟨_, rfl, Blk.new _ _ _⟩, Ext.alloc _ _⟩))))
          refine AWq.two rfl rfl rfl (fun w9 x9 => ?_)
          simp only [closeAny, Act.put, List.setIfInBounds_toArray, List.set_cons_succ, List.set_cons_zero]
          intro u hu
          obtain ⟨v', w4, hrun, ho4, hk4, hbl, _⟩ := app_row (P := Tryz.prog) (ty := 22) clause_elem (ownsRow_ext HOi.out x9) (Nat.le_trans HEi.out.size x9.size) (src_new Tryz.underlying22 hu (sz := 3) rfl (clause_coded.one (mkC p y))) (by unfold maxLen; omega) (by omega)
          have HO4 := hid (row_snocC (x := mkC p y) ho4)
          have HE4 : Hid (Ext w2 w4) := hk4.toExt (HEi.out.trans x9) (fun q hq => (row_block HOi.out q hq).1)
          have HS4 : Hid (Sl w4 2 (.slice (some ⟨b2, o2, none⟩) own.length c6) (own.map Rng.cells)) := Sl.keepC (HSi.out.ext x9) hk4 (fun _ b o n c e hb => hne.out b hb b o (by injection e) rfl)
          have HN4 : Hid (∀ q, v'.ownBlock = some q → ∀ b o, (some ⟨b2, o2, none⟩ : Option Addr) = some ⟨b, o, none⟩ → q ≠ b) := fun q hq b o e => by
            rcases hbl with h | h
            · exact hne.out q (by rw [← h]; exact hq) b o e
            · have h1 := h q hq
              have h2 := x9.size
              injection e with e
              injection e with e
              omega
          clear hu ho4 hk4 hbl hne HSi x9
          go_wp2_with (at_builtin; refine wpList_app rfl (.tmp 40) (.tmp 50) _ _ rfl rfl rfl hrun ?_)
          go_roundw
          case rel => exact ⟨j + 1, _, rfl, by omega, by go_num, HE4.out, HS4.out, HN4, (fun h => by rw [HAcc.out] at h; simp at h), by rw [HAcc.out]; exact HO4.out⟩
          case measure => simp [intOf]; omega
        · obtain rfl : j = own.length := by omega
          rw [List.take_length] at hOi hzi
          have HOj := hid hOi
          have HZj := hid hzi
          clear hEi hOi hsi hzi hne HOi HZi HNb HV6 HF6 HFr HZ HO c0 HC0 lbr
          go_wp2_with fail
          exact ⟨⟨k + 1, _, rfl, by omega, by go_num, HEi.out, (by rw [HM.out]; exact HZj.out), by rw [HM.out]; exact HOj.out⟩, by simp [intOf]; omega⟩
    · obtain rfl : k = ps.length := by omega
      rw [List.take_length] at hO hz
      have hrow := RowAt.of_row clause_coded hO hz
      have HR := hid hrow
      clear hE p3 hz hO hrow HO HZ HSz HAb HSa HTw
      go_wp2_with fail
      go_ret
      exact ⟨_, rfl, by rw [HAll.out]; exact HR.out, HX2.out.trans HE.out⟩
end Go.Proofs.YtggbkjmedoooaaaGreatDoor
