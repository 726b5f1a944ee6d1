/-
  The normal form of a filter: plain laws.
  The document's Prefixes and Above.
-/
import Derived.Test.YtggbkjmedoooaaaGreatDoorQdC
import Derived.Test.YtggbkjmedoooaaaGreatDoorFpEk
namespace Go.Proofs.YtggbkjmedoooaaaGreatDoor
set_option linter.unusedSimpArgs false
set_option linter.unusedVariables false
open Go.RowKit Go.Sort

instance : DecidableEq ClauseI := fun a b => if h : a.pre = b.pre ∧ a.lo = b.lo ∧ a.hi = b.hi then isTrue (by cases a; cases b; simp_all) else isFalse (by rintro rfl; exact h ⟨rfl, rfl, rfl⟩)
theorem D_iff (f : List ClauseI) (p : ByteArray) (n : Int) : sizes (selR f p) n ↔ 0 ≤ n ∧ n ≤ 200 ∧ ∃ c ∈ f, cov c.pre p = true ∧ c.lo ≤ n ∧ n ≤ c.hi := by
  unfold sizes selR memS inR
  refine and_congr Iff.rfl (and_congr Iff.rfl ?_)
  constructor
  · rintro ⟨r, hr, h1, h2⟩
    obtain ⟨c, hc, rfl⟩ := List.mem_map.1 hr
    obtain ⟨hc1, hc2⟩ := List.mem_filter.1 hc
    exact ⟨c, hc1, hc2, h1, h2⟩
  · rintro ⟨c, hc, h1, h2, h3⟩
    exact ⟨rngOf c, List.mem_map.2 ⟨c, List.mem_filter.2 ⟨hc, h1⟩, rfl⟩, h2, h3⟩
theorem A_iff (f : List ClauseI) (p : ByteArray) (n : Int) : sizes (selR (abvF f p) p) n ↔ 0 ≤ n ∧ n ≤ 200 ∧ ∃ c ∈ f, c.pre ≠ p ∧ cov c.pre p = true ∧ c.lo ≤ n ∧ n ≤ c.hi := by
  rw [D_iff]
  refine and_congr Iff.rfl (and_congr Iff.rfl ?_)
  unfold abvF
  constructor
  · rintro ⟨c, hc, h1, h2⟩
    obtain ⟨hc1, hc2⟩ := List.mem_filter.1 hc
    simp only [Bool.and_eq_true, Bool.not_eq_true', decide_eq_false_iff_not] at hc2
    exact ⟨c, hc1, hc2.1, h1, h2⟩
  · rintro ⟨c, hc, h0, h1, h2⟩
    exact ⟨c, List.mem_filter.2 ⟨hc, by simp [h0, h1]⟩, h1, h2⟩
theorem cov_refl (p : ByteArray) : cov p p = true := (cov_iff2 p p).2 (.inr (.inl rfl))
theorem cov_shorter {q p : ByteArray} (h : cov q p = true) (hne : q ≠ p) : q.size < p.size := by
  rw [← size_toList, ← size_toList]
  rcases (cov_iff2 q p).1 h with h | h | ⟨_, h⟩
  · rw [h]
    have : p.toList ≠ [] := fun e => hne (toList_inj (h.trans e.symm))
    exact List.length_pos_iff.2 this
  · exact absurd (toList_inj h).symm hne
  · exact (List.getElem?_eq_some_iff.1 h).1
theorem mem_normF (f : List ClauseI) (c : ClauseI) : c ∈ normF f ↔ ∃ p ∈ preS f, ∃ r ∈ ownF f p, c = mkC p r := by
  unfold normF normL
  rw [List.mem_flatMap]
  constructor
  · rintro ⟨p, hp, hc⟩
    obtain ⟨r, hr, rfl⟩ := List.mem_map.1 hc
    exact ⟨p, hp, r, hr, rfl⟩
  · rintro ⟨p, hp, r, hr, rfl⟩
    exact ⟨p, hp, List.mem_map.2 ⟨r, hr, rfl⟩⟩
theorem own_least (f : List ClauseI) (p : ByteArray) (n : Int) : ∀ (s : Nat) (q : ByteArray), q.size ≤ s → q ∈ preS f → cov q p = true → sizes (selR f q) n → ∃ q' ∈ preS f, cov q' p = true ∧ sizes (selR f q') n ∧ ¬ sizes (selR (abvF f q') q') n := by
  intro s
  induction s with
  | zero =>
    intro q hs hq hc hd
    refine ⟨q, hq, hc, hd, fun ha => ?_⟩
    obtain ⟨_, _, c, _, h0, h1, _⟩ := (A_iff f q n).1 ha
    have := cov_shorter h1 h0
    omega
  | succ s ih =>
    intro q hs hq hc hd
    by_cases ha : sizes (selR (abvF f q) q) n
    · obtain ⟨n0, n1, c, hcf, h0, h1, h2, h3⟩ := (A_iff f q n).1 ha
      have := cov_shorter h1 h0
      exact ih c.pre (by omega) ((mem_preS f _).2 ⟨c, hcf, rfl⟩) (cov_trans h1 hc) ((D_iff f _ n).2 ⟨n0, n1, c, hcf, cov_refl _, h2, h3⟩)
    · exact ⟨q, hq, hc, hd, ha⟩
/-- The normal form has the same sizes at each path. -/
theorem D_norm (f : List ClauseI) (p : ByteArray) (n : Int) : sizes (selR (normF f) p) n ↔ sizes (selR f p) n := by
  constructor
  · intro h
    obtain ⟨n0, n1, c, hc, h1, h2, h3⟩ := (D_iff _ p n).1 h
    obtain ⟨q, hq, r, hr, rfl⟩ := (mem_normF f c).1 hc
    obtain ⟨hd, _⟩ := ((ownF_is f q).2 n).1 ⟨r, hr, h2, h3⟩
    obtain ⟨_, _, c', hc', k1, k2⟩ := (D_iff f q n).1 hd
    exact (D_iff f p n).2 ⟨n0, n1, c', hc', cov_trans k1 h1, k2⟩
  · intro h
    obtain ⟨n0, n1, c, hc, h1, h2, h3⟩ := (D_iff f p n).1 h
    obtain ⟨q, hq, k1, k2, k3⟩ := own_least f p n c.pre.size c.pre (Nat.le_refl _) ((mem_preS f _).2 ⟨c, hc, rfl⟩) h1 ((D_iff f _ n).2 ⟨n0, n1, c, hc, cov_refl _, h2, h3⟩)
    obtain ⟨r, hr, r1, r2⟩ := ((ownF_is f q).2 n).2 ⟨k2, k3⟩
    exact (D_iff _ p n).2 ⟨n0, n1, mkC q r, (mem_normF f _).2 ⟨q, hq, r, hr, rfl⟩, k1, r1, r2⟩
/-- The same sizes at each path. -/
def Like (f g : List ClauseI) : Prop := ∀ p n, sizes (selR f p) n ↔ sizes (selR g p) n
theorem own_like {f g : List ClauseI} (h : Like f g) (p : ByteArray) : ownF f p = ownF g p := by
  unfold ownF
  refine nf_congr fun n => and_congr (h p n) (not_congr ?_)
  cases hp : p.toList.isEmpty with
  | true => rw [sel_empty f hp, sel_empty g hp]
  | false => rw [← sel_parent f hp, ← sel_parent g hp]; exact h _ n
theorem own_pre (f : List ClauseI) {p : ByteArray} (h : ownF f p ≠ []) : p ∈ preS f := by
  obtain ⟨r, hr⟩ := List.exists_mem_of_ne_nil _ h
  have hok := (ownF_is f p).1.ok r hr
  unfold Ok1 at hok
  obtain ⟨hd, ha⟩ := ((ownF_is f p).2 r.lo).1 ⟨r, hr, Int.le_refl _, hok.2.1⟩
  obtain ⟨n0, n1, c, hc, h1, h2, h3⟩ := (D_iff f p _).1 hd
  refine (mem_preS f p).2 ⟨c, hc, ?_⟩
  exact Classical.byContradiction fun hne => ha ((A_iff f p _).2 ⟨n0, n1, c, hc, hne, h1, h2, h3⟩)
theorem flat_filter (o : ByteArray → List Rng) : ∀ l : List ByteArray, l.flatMap (fun p => (o p).map (mkC p)) = (l.filter fun p => !(o p).isEmpty).flatMap fun p => (o p).map (mkC p)
  | [] => rfl
  | p :: l => by
    rw [List.flatMap_cons, flat_filter o l, List.filter_cons]
    cases h : o p with
    | nil => simp [h]
    | cons a t => simp [h]
theorem norm_like {f g : List ClauseI} (h : Like f g) : normF f = normF g := by
  have ho : ownF f = ownF g := funext fun p => own_like h p
  unfold normF normL
  rw [flat_filter (ownF f), flat_filter (ownF g), ho]
  congr 1
  refine srtL_eq blt_strict ((setL_srt blt_strict _).sublist List.filter_sublist) ((setL_srt blt_strict _).sublist List.filter_sublist) fun p => ?_
  rw [List.mem_filter, List.mem_filter]
  constructor
  · rintro ⟨_, h2⟩
    exact ⟨own_pre g (by intro e; rw [e] at h2; cases h2), h2⟩
  · rintro ⟨_, h2⟩
    exact ⟨own_pre f (by rw [ho]; intro e; rw [e] at h2; cases h2), h2⟩
theorem norm_iff (f g : List ClauseI) : normF f = normF g ↔ Like f g :=
  ⟨fun h p n => by rw [← D_norm f, h, D_norm g], norm_like⟩
theorem norm_again (f : List ClauseI) : normF (normF f) = normF f := norm_like fun p n => D_norm f p n
/-- Like at all prefixes: like. -/
theorem like_at {f g : List ClauseI} (h : ∀ p ∈ preS f ++ preS g, ∀ n, sizes (selR f p) n ↔ sizes (selR g p) n) : Like f g := by
  have go : ∀ {f g : List ClauseI}, (∀ p ∈ preS f, ∀ n, sizes (selR f p) n → sizes (selR g p) n) → ∀ p n, sizes (selR f p) n → sizes (selR g p) n := fun {f g} h p n hd => by
    obtain ⟨n0, n1, c, hc, h1, h2, h3⟩ := (D_iff f p n).1 hd
    obtain ⟨_, _, c', hc', k1, k2⟩ := (D_iff g _ n).1 (h c.pre ((mem_preS f _).2 ⟨c, hc, rfl⟩) n ((D_iff f _ n).2 ⟨n0, n1, c, hc, cov_refl _, h2, h3⟩))
    exact (D_iff g p n).2 ⟨n0, n1, c', hc', cov_trans k1 h1, k2⟩
  exact fun p n => ⟨go (fun p hp n hd => (h p (List.mem_append_left _ hp) n).1 hd) p n, go (fun p hp n hd => (h p (List.mem_append_right _ hp) n).2 hd) p n⟩
theorem cutsB_iff (n : Int) (c : ClauseI) : cutsB n ⟨c.lo, c.hi⟩ = true ↔ 0 ≤ n ∧ n ≤ 200 ∧ c.lo ≤ n ∧ n ≤ c.hi := by
  rw [cutsB_eq]
  simp only [Bool.and_eq_true, decide_eq_true_eq]
  exact ⟨fun h => ⟨h.1.1.1, h.1.1.2, h.1.2, h.2⟩, fun h => ⟨⟨⟨h.1, h.2.1⟩, h.2.2.1⟩, h.2.2.2⟩⟩
theorem hit_iff (f : List ClauseI) (x : FileI) : f.any (hitB x) = true ↔ (∃ c ∈ f, cov c.pre x.p = true ∧ x.dead = true) ∨ sizes (selR f x.p) x.size := by
  rw [List.any_eq_true, D_iff]
  constructor
  · rintro ⟨c, hc, h⟩
    unfold hitB at h
    rw [Bool.and_eq_true, Bool.or_eq_true, cutsB_iff] at h
    obtain ⟨h1, h2 | ⟨h2, h3, h4⟩⟩ := h
    · exact .inl ⟨c, hc, h1, h2⟩
    · exact .inr ⟨h2, h3, c, hc, h1, h4⟩
  · rintro (⟨c, hc, h1, h2⟩ | ⟨h2, h3, c, hc, h1, h4⟩)
    · exact ⟨c, hc, by unfold hitB; rw [Bool.and_eq_true, Bool.or_eq_true]; exact ⟨h1, .inl h2⟩⟩
    · exact ⟨c, hc, by unfold hitB; rw [Bool.and_eq_true, Bool.or_eq_true, cutsB_iff]; exact ⟨h1, .inr ⟨h2, h3, h4⟩⟩⟩
/-- The normal form matches the same files. -/
theorem norm_hits {f : List ClauseI} (hs : ∀ c ∈ f, rightC c = true) (x : FileI) : (normF f).any (hitB x) = f.any (hitB x) := by
  rw [Bool.eq_iff_iff, hit_iff, hit_iff, D_norm]
  refine or_congr ?_ Iff.rfl
  constructor
  · rintro ⟨c, hc, h1, h2⟩
    obtain ⟨q, hq, r, _, rfl⟩ := (mem_normF f c).1 hc
    obtain ⟨c', hc', rfl⟩ := (mem_preS f q).1 hq
    exact ⟨c', hc', h1, h2⟩
  · rintro ⟨c, hc, h1, h2⟩
    have hr := hs c hc
    unfold rightC at hr
    simp only [Bool.and_eq_true, decide_eq_true_eq] at hr
    obtain ⟨_, _, c', hc', k1, _⟩ := (D_iff (normF f) x.p c.lo).1 ((D_norm f x.p c.lo).2 ((D_iff f x.p c.lo).2 ⟨hr.2.1, by omega, c, hc, h1, Int.le_refl _, hr.2.2.1⟩))
    exact ⟨c', hc', k1, h2⟩
theorem normF_light {f : List ClauseI} (h : LightF f) : LightF (normF f) := fun c hc => by
  obtain ⟨q, hq, r, _, rfl⟩ := (mem_normF f c).1 hc
  obtain ⟨c', hc', rfl⟩ := (mem_preS f q).1 hq
  exact h c' hc'
theorem normF_len {f : List ClauseI} {N : Nat} (h : f.length ≤ N) : (normF f).length ≤ 101 * N := by
  have h1 := normL_len f (preS f)
  have h2 := preS_len f
  unfold normF
  exact Nat.le_trans h1 (Nat.mul_le_mul_left _ (Nat.le_trans h2 h))
end Go.Proofs.YtggbkjmedoooaaaGreatDoor
namespace Go.Proofs.YtggbkjmedoooaaaGreatDoor
set_option linter.unusedSimpArgs false
set_option linter.unusedVariables false
open Go.RowKit Go.Sort

theorem preS_take {l : List ClauseI} {k : Nat} (h : k < l.length) : preS (l.take (k + 1)) = insL blt l[k].pre (preS (l.take k)) := by
  unfold preS
  rw [List.take_succ_eq_append_getElem h, List.map_append]
  exact setL_snoc _ _
theorem row_weak {w : World} {B B' : Nat} {e : TypeId} {sz : Nat} {v : Value} {n : Nat} {xs : List Value} (h : w.ownsRow B e sz v n xs) (hB : B' ≤ B) : w.ownsRow B' e sz v n xs := by
  obtain ⟨h1, h2 | ⟨g, cap, cs, h3, h4, h5⟩⟩ := h
  · exact ⟨h1, .inl h2⟩
  · exact ⟨h1, .inr ⟨g, cap, cs, h3, Nat.le_trans hB h4, h5⟩⟩
/-- A row of one's own, made since. -/
def OwnS (l : List ByteArray) (B : Nat) (v : Value) (w : World) : Prop := (l.length = 0 → v = .slice none 0 0) ∧ w.ownsRow B 9 1 v l.length (l.map strC).flatten
theorem OwnS.row {l : List ByteArray} {B : Nat} {v : Value} {w : World} (h : OwnS l B v w) : RowAt strC 1 l v w := RowAt.of_row str_coded h.2 h.1
theorem OwnS.ext {l : List ByteArray} {B : Nat} {v : Value} {w w' : World} (h : OwnS l B v w) (he : Ext w w') : OwnS l B v w' := ⟨h.1, ownsRow_ext h.2 he⟩
set_option maxRecDepth 100000 in
set_option maxHeartbeats 4000000 in
theorem rprefixes_f (w : World) (v : Value) (l : List ClauseI) (h : Sl w 3 v (l.map ClauseI.cells)) (hl : l.length ≤ 5000) : Calls Tryz.prog 26 #[v] w (RetQ (OwnS (preS l) w.heap.size) w) := by
  obtain ⟨A, c, rfl, h1, h2, h3⟩ := sl_get h
  unfold maxLen at h2
  clear h
  go_enter Tryz.func26, Tryz.ntmps26
  go_wp2_with fail
  go_loopw [3, 4] (fun v i wr => ∃ (k : Nat) (ov : Value), k ≤ l.length ∧ i = .int .i64 k ∧ ov = v ∧ Ext w wr ∧ OwnS (preS (l.take k)) w.heap.size ov wr) (fun _ i _ => l.length - (intOf i).toNat)
  case atStart => exact ⟨0, _, by omega, rfl, rfl, Ext.refl _, fun _ => rfl, ownsRow_nil _ _ _ _⟩
  case round =>
    obtain ⟨k, v, hk, rfl, rfl, hE, hR⟩ := hrel
    have HE := hid hE
    by_cases hlt : k < l.length
    · obtain ⟨b', o', rfl, lb', hcell'⟩ := h3 (by omega)
      have c0 := hE.cell (hcell' k hlt 0 _ rfl)
      rw [Nat.add_zero] at c0
      have lbr := Nat.lt_of_lt_of_le lb' hE.size
      have HP1 := hid (preS_take hlt)
      have hal := preS_len (l.take k)
      rw [List.length_take] at hal
      have hnil := hR.1
      have HR := hid hR
      obtain ⟨A2, c2, rfl, g1, g2, g3⟩ := sl_get hR.row.1
      unfold maxLen at g2
      clear hE hcell' h3 hR
      generalize l[k].pre = p at c0 HP1
      generalize preS (l.take k) = acc at *
      have hr := rankL_le (lt := blt) p acc
      have hlow := rankL_lt (lt := blt) p acc
      have hat := rankL_at (lt := blt) p acc
      have HP : Hid (insL blt p acc = if acc[rankL blt p acc]? = some p then acc else acc.take (rankL blt p acc) ++ p :: acc.drop (rankL blt p acc)) := rfl
      have HN := hid hnil
      clear hnil
      generalize rankL blt p acc = r at hr hlow hat HP
      generalize insL blt p acc = out at HP HP1
      have HLow := hid hlow
      have HAt := hid hat
      clear hlow hat
      go_wp2_with fail
      go_loopw [6] (fun i WI => ∃ j : Nat, j ≤ r ∧ i = .int .i64 j ∧ Ext wr WI) (fun i _ => r - (intOf i).toNat)
      case atStart => exact ⟨0, by omega, rfl, Ext.refl _⟩
      case round =>
        obtain ⟨j, hj, rfl, hEi⟩ := hrel
        have HEi := hid (HE.out.trans hEi)
        by_cases hjr : j < r
        · have hjl : j < acc.length := by omega
          obtain ⟨b, o, rfl, lb, hcell⟩ := g3 (by omega)
          have d0 := hEi.cell (hcell j hjl 0 (.string acc[j]) rfl)
          simp only [Nat.mul_one, Nat.add_zero] at d0
          have lbw := Nat.lt_of_lt_of_le lb hEi.size
          have hb : Op.bytesLess acc[j].toList p.toList = true := HLow.out j hjl hjr
          have HE3 := hid hEi
          clear hcell g3 hEi
          generalize acc[j] = z at d0 hb
          go_wp2_with fail
          go_roundw
          case rel => exact ⟨j + 1, by omega, by go_num, HE3.out⟩
          case measure => simp [intOf]; omega
        · obtain rfl : j = r := by omega
          by_cases hjl : j < acc.length
          · obtain ⟨b, o, rfl, lb, hcell⟩ := g3 (by omega)
            have d0 := hEi.cell (hcell j hjl 0 (.string acc[j]) rfl)
            simp only [Nat.mul_one, Nat.add_zero] at d0
            have lbw := Nat.lt_of_lt_of_le lb hEi.size
            have hb : Op.bytesLess acc[j].toList p.toList = false := HAt.out hjl
            have HL := hid hcell
            have HQ : Hid (acc[j]? = some acc[j]) := List.getElem?_eq_getElem hjl
            have HE3 := hid hEi
            have dj : ((j : Int) == acc.length) = false := by simp; omega
            have djl : decide (j < acc.length) = true := decide_eq_true hjl
            clear hcell g3 hEi hjr HLow HAt
            generalize acc[j] = z at d0 hb HQ
            by_cases hz : z = p
            · subst hz
              have HP2 : Hid (out = acc) := by unfold Hid; rw [HP.out, if_pos HQ.out]
              have hs : (z.toList == z.toList) = true := by simp
              go_wp2_with fail
              exact ⟨⟨k + 1, _, by omega, by go_num, rfl, HEi.out, by rw [HP1.out, HP2.out]; exact HR.out.ext HE3.out⟩, by simp [intOf]; omega⟩
            · have hs : (z.toList == p.toList) = false := by rw [beq_toList]; simp [hz]
              obtain ⟨va, wa, vb, wb, vc, wc, ra, rb, rc, o2, ex, ea⟩ := app_three (P := Tryz.prog) str_elem (wr := wr) j (acc.length - j) ((acc.take j).map strC).flatten ((acc.drop j).map strC).flatten (strC p) (.slice (some ⟨b, o, none⟩) j c2) (.slice (if c2 = j then some ⟨b, o, none⟩ else some ⟨b, o + j * 1, none⟩) (acc.length - j) (c2 - j)) (by omega) (by omega) (by omega) rfl (str_coded.one p)
                (fun W hW => src_take Tryz.underlying43 str_coded HL.out j c2 (by omega) (HE3.out.trans hW)) (fun W hW => src_drop Tryz.underlying43 str_coded HL.out j c2 (by omega) g1 (HE3.out.trans hW))
              have HO := hid o2
              have HX := hid ex
              have hck : ¬ c2 = j := by omega
              have hout : out = acc.take j ++ p :: acc.drop j := by rw [HP.out, if_neg (by rw [HQ.out]; exact fun e => hz (Option.some.inj e))]
              have HLen : Hid (out.length = j + 1 + (acc.length - j)) := by unfold Hid; rw [hout]; simp; omega
              have HFl : Hid ((out.map strC).flatten = ((acc.take j).map strC).flatten ++ strC p ++ ((acc.drop j).map strC).flatten) := by unfold Hid; rw [hout]; simp
              rw [if_neg hck, Nat.mul_one] at rc
              unfold strC at rb
              clear o2 ex ea hout hz HQ HP HR HN HL
              go_wp2_with (first
                | (at_builtin; refine wpList_app rfl (.tmp 45) (.tmp 48) _ _ rfl rfl rfl ra ?_)
                | (at_builtin; refine wpList_app rfl (.tmp 50) (.tmp 52) _ _ rfl rfl rfl rb ?_)
                | (at_builtin; refine wpList_app rfl (.tmp 54) (.tmp 57) _ _ rfl rfl rfl rc ?_))
              all_goals exact ⟨⟨k + 1, _, by omega, by go_num, rfl, HEi.out.trans HX.out, by rw [HP1.out]; exact ⟨fun h0 => by rw [HLen.out] at h0; omega, by rw [HLen.out, HFl.out]; exact row_weak HO.out HEi.out.size⟩⟩, by simp [intOf]; omega⟩
          · have dj : ((j : Int) == acc.length) = true := by simp; omega
            have djl : decide (j < acc.length) = false := decide_eq_false hjl
            have HE3 := hid hEi
            by_cases h0 : acc.length = 0
            · have hnil := HN.out h0
              injection hnil with hA hn hc0
              subst hA hc0
              have hl0 : acc = [] := List.eq_nil_of_length_eq_zero h0
              subst hl0
              have hk0 : j = 0 := by omega
              subst hk0
              have hout : out = [p] := by rw [HP.out]; simp
              have HLen : Hid (out.length = 0 + 1 + 0) := by unfold Hid; rw [hout]; rfl
              have HFl : Hid ((out.map strC).flatten = [] ++ strC p ++ []) := by unfold Hid; rw [hout]; simp
              clear hout g3 hEi HN HP HR HLow HAt
              obtain ⟨va, wa, vb, wb, vc, wc, ra, rb, rc, o2, ex, ea⟩ := app_three (P := Tryz.prog) str_elem (wr := wr) 0 0 [] [] (strC p) (.slice none 0 0) (.slice none 0 0) (by omega) (by omega) (by omega) rfl (str_coded.one p)
                (fun W hW => Src.ofNil W Tryz.underlying43 0) (fun W hW => Src.ofNil W Tryz.underlying43 0)
              have HO := hid o2
              have HX := hid ex
              unfold strC at rb
              clear o2 ex ea
              go_wp2_with (first
                | (at_builtin; refine wpList_app rfl (.tmp 45) (.tmp 48) _ _ rfl rfl rfl ra ?_)
                | (at_builtin; refine wpList_app rfl (.tmp 50) (.tmp 52) _ _ rfl rfl rfl rb ?_)
                | (at_builtin; refine wpList_app rfl (.tmp 54) (.tmp 57) _ _ rfl rfl rfl rc ?_))
              all_goals exact ⟨⟨k + 1, _, by omega, by go_num, rfl, HEi.out.trans HX.out, by rw [HP1.out]; exact ⟨fun h0 => by rw [HLen.out] at h0; omega, by rw [HLen.out, HFl.out]; exact row_weak HO.out HEi.out.size⟩⟩, by simp [intOf]; omega⟩
            · obtain ⟨b, o, rfl, lb, hcell⟩ := g3 (by omega)
              have HL := hid hcell
              have hout : out = acc.take j ++ p :: acc.drop j := by rw [HP.out, if_neg (by rw [List.getElem?_eq_none (by omega)]; simp)]
              have HLen : Hid (out.length = j + 1 + (acc.length - j)) := by unfold Hid; rw [hout]; simp; omega
              have HFl : Hid ((out.map strC).flatten = ((acc.take j).map strC).flatten ++ strC p ++ ((acc.drop j).map strC).flatten) := by unfold Hid; rw [hout]; simp
              clear hcell g3 hEi HP HR hout HLow HAt HN
              obtain ⟨va, wa, vb, wb, vc, wc, ra, rb, rc, o2, ex, ea⟩ := app_three (P := Tryz.prog) str_elem (wr := wr) j (acc.length - j) ((acc.take j).map strC).flatten ((acc.drop j).map strC).flatten (strC p) (.slice (some ⟨b, o, none⟩) j c2) (.slice (if c2 = j then some ⟨b, o, none⟩ else some ⟨b, o + j * 1, none⟩) (acc.length - j) (c2 - j)) (by omega) (by omega) (by omega) rfl (str_coded.one p)
                (fun W hW => src_take Tryz.underlying43 str_coded HL.out j c2 (by omega) (HE3.out.trans hW)) (fun W hW => src_drop Tryz.underlying43 str_coded HL.out j c2 (by omega) g1 (HE3.out.trans hW))
              have HO := hid o2
              have HX := hid ex
              rw [Nat.mul_one] at rc
              unfold strC at rb
              clear o2 ex ea
              go_wp2_with (first
                | (at_builtin; refine wpList_app rfl (.tmp 45) (.tmp 48) _ _ rfl rfl rfl ra ?_)
                | (at_builtin; refine wpList_app rfl (.tmp 50) (.tmp 52) _ _ rfl rfl rfl rb ?_)
                | (at_builtin; refine wpList_app rfl (.tmp 54) (.tmp 57) _ _ rfl rfl rfl rc ?_))
              all_goals exact ⟨⟨k + 1, _, by omega, by go_num, rfl, HEi.out.trans HX.out, by rw [HP1.out]; exact ⟨fun h0 => by rw [HLen.out] at h0; omega, by rw [HLen.out, HFl.out]; exact row_weak HO.out HEi.out.size⟩⟩, by simp [intOf]; omega⟩
    · obtain rfl : k = l.length := by omega
      rw [List.take_length] at hR
      have HR := hid hR
      clear hE h3 hR
      go_wp2_with fail
      go_ret
      exact ⟨_, rfl, HR.out, HE.out⟩
theorem rprefixes_c (w : World) (v : Value) (l : List ClauseI) (h : Sl w 3 v (l.map ClauseI.cells)) (hl : l.length ≤ 5000) : Calls Tryz.prog 26 #[v] w (RetQ (RowAt strC 1 (preS l)) w) :=
  (rprefixes_f w v l h hl).mono fun e w' ⟨v', he, hr, hx⟩ => ⟨v', he, hr.row, hx⟩
end Go.Proofs.YtggbkjmedoooaaaGreatDoor
