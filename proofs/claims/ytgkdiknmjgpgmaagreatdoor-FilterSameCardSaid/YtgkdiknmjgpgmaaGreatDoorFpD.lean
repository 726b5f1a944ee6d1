/-
  filter.Norm.
-/
import Derived.Test.YtgkdiknmjgpgmaaGreatDoorFpA
import Derived.Test.YtgkdiknmjgpgmaaGreatDoorFpC
namespace Go.Proofs.YtgkdiknmjgpgmaaGreatDoor
set_option linter.unusedSimpArgs false
set_option linter.unusedVariables false
open Go.RowKit Go.Sort

/-- Of a prefix what those above it do not have. -/
noncomputable def ownF (f : List ClauseI) (p : ByteArray) : List Rng := nf fun n => sizes (selR f p) n ∧ ¬ sizes (selR (abvF f p) p) n
def mkC (p : ByteArray) (r : Rng) : ClauseI := ⟨p, r.lo, r.hi⟩
noncomputable def normL (f : List ClauseI) (ps : List ByteArray) : List ClauseI := ps.flatMap fun p => (ownF f p).map (mkC p)
noncomputable def normF (f : List ClauseI) : List ClauseI := normL f (preS f)
theorem normL_take (f : List ClauseI) (ps : List ByteArray) (k : Nat) (h : k < ps.length) : normL f (ps.take (k + 1)) = normL f (ps.take k) ++ (ownF f ps[k]).map (mkC ps[k]) := by
  unfold normL
  rw [List.take_succ_eq_append_getElem h, List.flatMap_append]
  simp
theorem ownF_eq (f : List ClauseI) (p : ByteArray) : (nf fun n => sizes (nf (sizes (selR f p))) n ∧ ¬ sizes (abvL f p) n) = ownF f p := by
  unfold ownF
  refine nf_congr fun n => ?_
  rw [abvL_mem, sizes_form (nf_form _).1, (nf_form _).2.1]
theorem form_lo : ∀ {l : List Rng}, IsForm l → ∀ (k : Nat) (h : k < l.length), 2 * (k : Int) ≤ l[k].lo := fun {l} hf k => by
  induction k with
  | zero => intro h; have := (hf.ok _ (List.getElem_mem h)).1; omega
  | succ k ih =>
    intro h
    have h1 := ih (by omega)
    have h2 := hf.ok _ (List.getElem_mem (show k < l.length by omega))
    have h3 := List.pairwise_iff_getElem.1 hf.gap k (k + 1) (by omega) h (by omega)
    unfold Ok1 at h2
    omega
theorem form_len {l : List Rng} (h : IsForm l) : l.length ≤ 101 := by
  rcases Nat.lt_or_ge 101 l.length with h1 | h1
  · have h2 := form_lo h 101 h1
    have h3 := h.ok _ (List.getElem_mem h1)
    unfold Ok1 at h3
    omega
  · exact h1
theorem diff_form (a b : List Rng) : IsForm (nf fun n => sizes a n ∧ ¬ sizes b n) ∧ ∀ n, memS (nf fun n => sizes a n ∧ ¬ sizes b n) n ↔ (sizes a n ∧ ¬ sizes b n) := by
  obtain ⟨fa1, fa2, _⟩ := nf_form a
  obtain ⟨fb1, fb2, _⟩ := nf_form b
  have hrs : ∀ n, sizes (Sz.restL 0 (nf (sizes b))) n ↔ 0 ≤ n ∧ n ≤ 200 ∧ ¬ sizes b n := fun n => by
    rw [Sz.restL_mem _ 0 (Int.le_refl _) fb1 (fun r hr => (fb1.ok r hr).1), fb2]
    constructor
    · rintro ⟨a, b, c⟩; exact ⟨b, a, c⟩
    · rintro ⟨a, b, c⟩; exact ⟨b, a, c⟩
  obtain ⟨g1, g2, _⟩ := nf_form (Sz.restL 0 (nf (sizes b)))
  have hset : (nf fun n => sizes a n ∧ ¬ sizes b n) = nf (sizes (Sz.caps (nf (sizes a)) (nf (sizes (Sz.restL 0 (nf (sizes b))))))) := nf_congr fun n => by
    rw [Sz.mem_caps fa1 g1, fa2, g2, hrs]
    constructor
    · rintro ⟨h, k⟩; exact ⟨h, h.1, h.2.1, k⟩
    · rintro ⟨h, _, _, k⟩; exact ⟨h, k⟩
  rw [hset]
  obtain ⟨k1, k2, _⟩ := nf_form (Sz.caps (nf (sizes a)) (nf (sizes (Sz.restL 0 (nf (sizes b))))))
  refine ⟨k1, fun n => ?_⟩
  rw [k2, Sz.mem_caps fa1 g1, fa2, g2, hrs]
  constructor
  · rintro ⟨h, _, _, k⟩; exact ⟨h, k⟩
  · rintro ⟨h, k⟩; exact ⟨h, h.1, h.2.1, k⟩
theorem ownF_is (f : List ClauseI) (p : ByteArray) : IsForm (ownF f p) ∧ ∀ n, memS (ownF f p) n ↔ (sizes (selR f p) n ∧ ¬ sizes (selR (abvF f p) p) n) := diff_form _ _
theorem ownF_len (f : List ClauseI) (p : ByteArray) : (ownF f p).length ≤ 101 := form_len (ownF_is f p).1
theorem normL_len (f : List ClauseI) : ∀ ps : List ByteArray, (normL f ps).length ≤ 101 * ps.length
  | [] => by simp [normL]
  | p :: ps => by
    have h1 := normL_len f ps
    have h2 := ownF_len f p
    have e : normL f (p :: ps) = (ownF f p).map (mkC p) ++ normL f ps := by simp [normL]
    rw [e, List.length_append, List.length_map, List.length_cons]
    omega
theorem map_take1 {α β : Type} (g : α → β) (l : List α) (k : Nat) (h : k < l.length) : (l.take (k + 1)).map g = (l.take k).map g ++ [g l[k]] := by
  rw [List.take_succ_eq_append_getElem h, List.map_append]; rfl
theorem Sl.keepC {w w' : World} {S : Nat → Prop} {sz : Nat} {v : Value} {xs : List (List Value)} (h : Sl w sz v xs) (he : Keep S w w') (hs : 0 < xs.length → ∀ b o n c, v = .slice (some ⟨b, o, none⟩) n c → ¬ S b) : Sl w' sz v xs := by
  obtain ⟨A, c, h1, h2, h3, h4⟩ := h
  refine ⟨A, c, h1, h2, h3, fun hn => ?_⟩
  obtain ⟨b, o, h5, h6, h7⟩ := h4 hn
  refine ⟨b, o, h5, Nat.lt_of_lt_of_le h6 he.size, fun k x j u hx hu => ?_⟩
  have hb := he.block b h6 (hs hn b o _ _ (by rw [h1, h5]))
  have := h7 k x j u hx hu
  unfold World.cell? at this ⊢
  rw [hb]
  exact this
theorem clause_info : (Tryz.prog.info? 34).map (fun i => (i.zero, i.size, i.bytes)) = some (some (.agg #[.string ⟨#[]⟩, .int .i64 0, .int .i64 0]), 3, 32) := by kernel_rfl
theorem clause_elem : Elem Tryz.prog 22 34 3 32 := by
  obtain ⟨i0, h0, h1, h2, h3⟩ := info_parts clause_info
  exact ⟨Tryz.underlying22, i0, _, h0, h1, h2, h3, rfl⟩
set_option maxRecDepth 100000 in
set_option maxHeartbeats 4000000 in
theorem fnorm_c (w : World) (v : Value) (l : List ClauseI) (h : Sl w 3 v (l.map ClauseI.cells)) (hl : l.length ≤ 5000) (hs : LightF l) : Calls Tryz.prog 8 #[v] w (RetQ (RowAt ClauseI.cells 3 (normF l)) w) := by
  have HPr := hid (prefixes_c w v l h hl)
  have HSz := fun W (hW : Ext w W) (p : ByteArray) (hp : p.size ≤ 1000) => hid (fsizes_c W v l p (h.ext hW) hl hp hs)
  have HAb := fun W (hW : Ext w W) (p : ByteArray) (hp : p.size ≤ 1000) => hid (above_c W v l p (h.ext hW) hl hp hs)
  have HMi := fun W (p : ByteArray) (x y : Value) (hx : Sl W 2 x ((nf (sizes (selR l p))).map Rng.cells)) (hy : Sl W 2 y ((abvL l p).map Rng.cells)) => hid (Sz.minus8_f W x y _ _ hx hy (by have := form_len (nf_form (selR l p)).1; omega) (by
    unfold abvL
    split
    · simp
    · have := form_len (nf_form (selR l (parentK p))).1; omega))
  have HMi2 := fun W p x y hx hy => by
    have := HMi W p x y hx hy
    rw [ownF_eq] at this
    exact this
  have HPs : Hid (∀ p ∈ preS l, p.size ≤ 1000) := fun p hp => by
    obtain ⟨c, hc, rfl⟩ := (mem_preS l p).1 hp
    have := hs c hc
    omega
  have hpl := preS_len l
  have HAll : Hid (normF l = normL l (preS l)) := rfl
  obtain ⟨A, c, rfl, _⟩ := sl_get h
  generalize preS l = ps at HPr HPs hpl HAll
  clear h hs HMi
  go_enter Tryz.func8, Tryz.ntmps8
  go_wp2_with fail
  go_step3
  go_wp2_with fail
  go_step3
  go_wp2_with (go_at_call 19; refine (HPr.out).mono ?_; rintro e w2 ⟨v2, rfl, hv2, hx2⟩; have HX2 := hid hx2; obtain ⟨A2, c2, rfl, p1, p2, p3⟩ := sl_get hv2.1; clear hv2 hx2 HPr)
  unfold maxLen at p2
  go_loopw [3, 12] (fun v i wr => ∃ (k : Nat) (ov : Value), ov = v ∧ k ≤ ps.length ∧ i = .int .i64 k ∧ Ext w2 wr ∧ ((normL l (ps.take k)).length = 0 → v = .slice none 0 0) ∧ wr.ownsRow w2.heap.size 34 3 v (normL l (ps.take k)).length ((normL l (ps.take k)).map ClauseI.cells).flatten) (fun _ i _ => ps.length - (intOf i).toNat)
  case atStart => exact ⟨0, _, rfl, by omega, rfl, Ext.refl _, (fun _ => rfl), ownsRow_nil _ _ _ _⟩
  case round =>
    obtain ⟨k, v, rfl, hk, rfl, hE, hz, hO⟩ := hrel
    have HE := hid hE
    have HO := hid hO
    have HZ := hid hz
    by_cases hlt : k < ps.length
    · obtain ⟨b', o, rfl, lb, hcell⟩ := p3 (by omega)
      have c0 := hE.cell (hcell k hlt 0 (.string ps[k]) rfl)
      simp only [Nat.mul_one, Nat.add_zero] at c0
      have lbr := Nat.lt_of_lt_of_le lb hE.size
      have HM := hid (normL_take l ps k hlt)
      have hln := normL_len l (ps.take k)
      rw [List.length_take] at hln
      have hpz := HPs.out _ (List.getElem_mem hlt)
      have hol := ownF_len l ps[k]
      have HS := fun W (hW : Ext wr W) => HSz W (HX2.out.trans (hE.trans hW)) ps[k] hpz
      have HA := fun W (hW : Ext wr W) => HAb W (HX2.out.trans (hE.trans hW)) ps[k] hpz
      have HM2 := fun W => HMi2 W ps[k]
      clear hcell p3 hE hz hO HSz HAb HMi2
      generalize normL l (ps.take k) = acc at HO HZ HM hln
      generalize ps[k] = p at c0 HM HS HA HM2 hol hpz
      generalize ownF l p = own at HM HM2 hol
      generalize nf (sizes (selR l p)) = sa at HS HM2
      generalize abvL l p = sb at HA HM2
      cases h0 : ((own.length : Int) == 0) with
      | true =>
        have hown : own = [] := List.eq_nil_of_length_eq_zero (by simp at h0; exact congrArg List.length h0)
        go_wp2_with (first
          | (go_at_call 20; refine ((HM2 _ _ _ HVs.out.1 HVa.out.1).out).mono ?_; rintro e w6 ⟨v6, rfl, hv6, hx6⟩; have HX6 := hid (HX5.out.trans hx6); obtain ⟨A6, c6, rfl, q1, q2, q3⟩ := sl_get hv6.1.1; clear hv6 hx6)
          | (go_at_call 22; refine ((HA _ HX4.out).out).mono ?_; rintro e w5 ⟨v5, rfl, hv5, hx5⟩; have HVa := hid hv5; have HVs := hid (HVs.out.ext hx5); have HX5 := hid (HX4.out.trans hx5); clear hv5 hx5)
          | (go_at_call 21; refine ((HS _ (Ext.refl _)).out).mono ?_; rintro e w4 ⟨v4, rfl, hv4, hx4⟩; have HVs := hid hv4; have HX4 := hid hx4; clear hv4 hx4))
        have HM0 : Hid (normL l (ps.take (k + 1)) = acc) := by unfold Hid; rw [HM.out, hown]; simp
        exact ⟨⟨k + 1, _, rfl, by omega, by go_num, HE.out.trans HX6.out, (by rw [HM0.out]; exact HZ.out), by rw [HM0.out]; exact ownsRow_ext HO.out HX6.out⟩, by simp [intOf]; omega⟩
      | false =>
        have HFr : Hid (∀ q, v.ownBlock = some q → q < wr.heap.size) := fun q hq => (row_block HO.out q hq).2
        go_wp2_with (first
          | (go_at_call 20; refine ((HM2 _ _ _ HVs.out.1 HVa.out.1).out).mono ?_; rintro e w6 ⟨v6, rfl, hv6, hx6⟩; have HX6 := hid (HX5.out.trans hx6); have HV6 := hid hv6.1.1; have HF6 := hid (hv6.2.early HX5.out); obtain ⟨A6, c6, rfl, q1, q2, q3⟩ := sl_get hv6.1.1; clear hv6 hx6 q3)
          | (go_at_call 22; refine ((HA _ HX4.out).out).mono ?_; rintro e w5 ⟨v5, rfl, hv5, hx5⟩; have HVa := hid hv5; have HVs := hid (HVs.out.ext hx5); have HX5 := hid (HX4.out.trans hx5); clear hv5 hx5)
          | (go_at_call 21; refine ((HS _ (Ext.refl _)).out).mono ?_; rintro e w4 ⟨v4, rfl, hv4, hx4⟩; have HVs := hid hv4; have HX4 := hid hx4; clear hv4 hx4))
        unfold maxLen at q2
        have hnz : 0 < own.length := by
          rcases Nat.eq_zero_or_pos own.length with h | h
          · rw [h] at h0; cases h0
          · exact h
        have HNb : Hid (∀ q, v.ownBlock = some q → ∀ b o, A6 = some ⟨b, o, none⟩ → q ≠ b) := fun q hq b o e => by
          have h1 := HFr.out q hq
          have h2 := HF6.out b o _ _ (by rw [e])
          omega
        go_loopw [3, 28] (fun v i WQ => ∃ (j : Nat) (ov : Value), ov = v ∧ j ≤ own.length ∧ i = .int .i64 j ∧ Ext w2 WQ ∧ Sl WQ 2 (.slice A6 own.length c6) (own.map Rng.cells) ∧ Hid (∀ q, v.ownBlock = some q → ∀ b o, A6 = some ⟨b, o, none⟩ → q ≠ b) ∧ ((acc ++ (own.take j).map (mkC p)).length = 0 → v = .slice none 0 0) ∧ WQ.ownsRow w2.heap.size 34 3 v (acc ++ (own.take j).map (mkC p)).length ((acc ++ (own.take j).map (mkC p)).map ClauseI.cells).flatten) (fun _ i _ => own.length - (intOf i).toNat)
        case atStart => exact ⟨0, _, rfl, by omega, rfl, HE.out.trans HX6.out, HV6.out, HNb, by simpa using HZ.out, by simpa using ownsRow_ext HO.out HX6.out⟩
        case round =>
          obtain ⟨j, v, rfl, hj, rfl, hEi, hsi, hne, hzi, hOi⟩ := hrel
          have HEi := hid hEi
          have HSi := hid hsi
          have HOi := hid hOi
          have HZi := hid hzi
          by_cases hjlt : j < own.length
          · obtain ⟨A7, c7, e7, _, _, r3⟩ := sl_get hsi
            injection e7 with eA _ ec
            subst eA ec
            obtain ⟨b2, o2, rfl, lb2, hcell2⟩ := r3 (by omega)
            have y0 := hcell2 j hjlt 0 _ rfl
            have y1 := hcell2 j hjlt 1 _ rfl
            rw [Nat.add_zero] at y0
            have HSj := hid (map_take1 (mkC p) own j hjlt)
            have hlj : (acc ++ (own.take j).map (mkC p)).length ≤ 1000000 := by rw [List.length_append, List.length_map, List.length_take]; omega
            clear hEi hOi hsi hzi hcell2 r3 HNb HV6 HF6 HFr HZ HO HE
            generalize own[j] = y at y0 y1 HSj
            have HAcc : Hid (acc ++ (own.take (j + 1)).map (mkC p) = (acc ++ (own.take j).map (mkC p)) ++ [mkC p y]) := by unfold Hid; rw [HSj.out, List.append_assoc]
            generalize acc ++ (own.take j).map (mkC p) = ac at HOi hlj HAcc HZi
            have hE5 := Ext.alloc wr (.cells #[.int .i64 y.lo, .int .i64 y.hi] 32)
            obtain ⟨v', w4, hrun, ho4, hk4, hbl⟩ := app_one (P := Tryz.prog) clause_elem clause_coded (ownsRow_ext HOi.out hE5) (HEi.out.trans hE5).size (mkC p y) hlj (by omega)
            simp only [ClauseI.cells, mkC, World.size_alloc] at hrun
            have HO4 := hid ho4
            have HE4 : Hid (Ext w2 w4) := hk4.toExt (HEi.out.trans hE5) (fun q hq => (row_block HOi.out q hq).1)
            have HS4 : Hid (Sl w4 2 (.slice (some ⟨b2, o2, none⟩) own.length c6) (own.map Rng.cells)) := Sl.keepC (HSi.out.ext hE5) hk4 (fun _ b o n c e hb => hne.out b hb b o (by injection e) rfl)
            have HN4 : Hid (∀ q, v'.ownBlock = some q → ∀ b o, (some ⟨b2, o2, none⟩ : Option Addr) = some ⟨b, o, none⟩ → q ≠ b) := fun q hq b o e => by
              rcases hbl with h | h
              · exact hne.out q (by rw [← h]; exact hq) b o e
              · have h1 := h q hq
                have h2 := hE5.size
                injection e with e
                injection e with e
                omega
            clear ho4 hk4 hbl hE5 hne HSi
            go_wp2_with (at_builtin; refine wpList_app rfl (.tmp 32) (.tmp 36) _ _ rfl rfl rfl hrun ?_)
            go_roundw
            case rel => exact ⟨j + 1, _, rfl, by omega, by go_num, HE4.out, HS4.out, HN4, (fun h => by rw [HAcc.out] at h; simp at h), by rw [HAcc.out]; exact HO4.out⟩
            case measure => simp [intOf]; omega
          · obtain rfl : j = own.length := by omega
            rw [List.take_length] at hOi hzi
            have HOj := hid hOi
            have HZj := hid hzi
            clear hEi hOi hsi hzi hne HOi HZi HNb HV6 HF6 HFr HZ HO
            go_wp2_with fail
            exact ⟨⟨k + 1, _, rfl, by omega, by go_num, HEi.out, (by rw [HM.out]; exact HZj.out), by rw [HM.out]; exact HOj.out⟩, by simp [intOf]; omega⟩
    · obtain rfl : k = ps.length := by omega
      rw [List.take_length] at hO hz
      have hrow := RowAt.of_row clause_coded hO hz
      have HR := hid hrow
      clear hE p3 hz hO hrow HO HZ HSz HAb HMi2
      go_wp2_with fail
      go_ret
      exact ⟨_, rfl, by rw [HAll.out]; exact HR.out, HX2.out.trans HE.out⟩
end Go.Proofs.YtgkdiknmjgpgmaaGreatDoor
