/-
  The normal form of a filter: plain laws.
  The document's Prefixes and Above.
  The document's Alike.
  Sane; whether two filters are the very same; filter.Same.
-/
import Derived.Test.YtjnjamhohnnefaaGreatDoorPkC
import Derived.Test.YtjnjamhohnnefaaGreatDoorPkA
namespace Go.Proofs.YtjnjamhohnnefaaGreatDoor
set_option linter.unusedSimpArgs false
set_option linter.unusedVariables false
open Go.RowKit Go.Sort

instance : DecidableEq ClauseI := fun a b => if h : a.pre = b.pre ∧ a.lo = b.lo ∧ a.hi = b.hi then isTrue (by cases a; cases b; simp_all) else isFalse (by rintro rfl; exact h ⟨rfl, rfl, rfl⟩)
theorem D_iff (f : List ClauseI) (p : ByteArray) (n : Int) : sizes (selR f p) n ↔ 0 ≤ n ∧ n ≤ 200 ∧ ∃ c ∈ f, cov c.pre p = true ∧ c.lo ≤ n ∧ n ≤ c.hi := by
  unfold sizes selR memS inR
  refine and_congr Iff.rfl (and_congr Iff.rfl ?_)
  constructor
  · rintro ⟨r, hr, h1, h2⟩
    obtain ⟨c, hc, rfl⟩ := List.mem_map.1 hr
    obtain ⟨hc1, hc2⟩ := List.mem_filter.1 hc
    exact ⟨c, hc1, hc2, h1, h2⟩
  · rintro ⟨c, hc, h1, h2, h3⟩
    exact ⟨rngOf c, List.mem_map.2 ⟨c, List.mem_filter.2 ⟨hc, h1⟩, rfl⟩, h2, h3⟩
theorem A_iff (f : List ClauseI) (p : ByteArray) (n : Int) : sizes (selR (abvF f p) p) n ↔ 0 ≤ n ∧ n ≤ 200 ∧ ∃ c ∈ f, c.pre ≠ p ∧ cov c.pre p = true ∧ c.lo ≤ n ∧ n ≤ c.hi := by
  rw [D_iff]
  refine and_congr Iff.rfl (and_congr Iff.rfl ?_)
  unfold abvF
  constructor
  · rintro ⟨c, hc, h1, h2⟩
    obtain ⟨hc1, hc2⟩ := List.mem_filter.1 hc
    simp only [Bool.and_eq_true, Bool.not_eq_true', decide_eq_false_iff_not] at hc2
    exact ⟨c, hc1, hc2.1, h1, h2⟩
  · rintro ⟨c, hc, h0, h1, h2⟩
    exact ⟨c, List.mem_filter.2 ⟨hc, by simp [h0, h1]⟩, h1, h2⟩
theorem cov_refl (p : ByteArray) : cov p p = true := (cov_iff2 p p).2 (.inr (.inl rfl))
theorem cov_shorter {q p : ByteArray} (h : cov q p = true) (hne : q ≠ p) : q.size < p.size := by
  rw [← size_toList, ← size_toList]
  rcases (cov_iff2 q p).1 h with h | h | ⟨_, h⟩
  · rw [h]
    have : p.toList ≠ [] := fun e => hne (toList_inj (h.trans e.symm))
    exact List.length_pos_iff.2 this
  · exact absurd (toList_inj h).symm hne
  · exact (List.getElem?_eq_some_iff.1 h).1
theorem mem_normF (f : List ClauseI) (c : ClauseI) : c ∈ normF f ↔ ∃ p ∈ preS f, ∃ r ∈ ownF f p, c = mkC p r := by
  unfold normF normL
  rw [List.mem_flatMap]
  constructor
  · rintro ⟨p, hp, hc⟩
    obtain ⟨r, hr, rfl⟩ := List.mem_map.1 hc
    exact ⟨p, hp, r, hr, rfl⟩
  · rintro ⟨p, hp, r, hr, rfl⟩
    exact ⟨p, hp, List.mem_map.2 ⟨r, hr, rfl⟩⟩
theorem own_least (f : List ClauseI) (p : ByteArray) (n : Int) : ∀ (s : Nat) (q : ByteArray), q.size ≤ s → q ∈ preS f → cov q p = true → sizes (selR f q) n → ∃ q' ∈ preS f, cov q' p = true ∧ sizes (selR f q') n ∧ ¬ sizes (selR (abvF f q') q') n := by
  intro s
  induction s with
  | zero =>
    intro q hs hq hc hd
    refine ⟨q, hq, hc, hd, fun ha => ?_⟩
    obtain ⟨_, _, c, _, h0, h1, _⟩ := (A_iff f q n).1 ha
    have := cov_shorter h1 h0
    omega
  | succ s ih =>
    intro q hs hq hc hd
    by_cases ha : sizes (selR (abvF f q) q) n
    · obtain ⟨n0, n1, c, hcf, h0, h1, h2, h3⟩ := (A_iff f q n).1 ha
      have := cov_shorter h1 h0
      exact ih c.pre (by omega) ((mem_preS f _).2 ⟨c, hcf, rfl⟩) (cov_trans h1 hc) ((D_iff f _ n).2 ⟨n0, n1, c, hcf, cov_refl _, h2, h3⟩)
    · exact ⟨q, hq, hc, hd, ha⟩
/-- The normal form has the same sizes at each path. -/
theorem D_norm (f : List ClauseI) (p : ByteArray) (n : Int) : sizes (selR (normF f) p) n ↔ sizes (selR f p) n := by
  constructor
  · intro h
    obtain ⟨n0, n1, c, hc, h1, h2, h3⟩ := (D_iff _ p n).1 h
    obtain ⟨q, hq, r, hr, rfl⟩ := (mem_normF f c).1 hc
    obtain ⟨hd, _⟩ := ((ownF_is f q).2 n).1 ⟨r, hr, h2, h3⟩
    obtain ⟨_, _, c', hc', k1, k2⟩ := (D_iff f q n).1 hd
    exact (D_iff f p n).2 ⟨n0, n1, c', hc', cov_trans k1 h1, k2⟩
  · intro h
    obtain ⟨n0, n1, c, hc, h1, h2, h3⟩ := (D_iff f p n).1 h
    obtain ⟨q, hq, k1, k2, k3⟩ := own_least f p n c.pre.size c.pre (Nat.le_refl _) ((mem_preS f _).2 ⟨c, hc, rfl⟩) h1 ((D_iff f _ n).2 ⟨n0, n1, c, hc, cov_refl _, h2, h3⟩)
    obtain ⟨r, hr, r1, r2⟩ := ((ownF_is f q).2 n).2 ⟨k2, k3⟩
    exact (D_iff _ p n).2 ⟨n0, n1, mkC q r, (mem_normF f _).2 ⟨q, hq, r, hr, rfl⟩, k1, r1, r2⟩
/-- The same sizes at each path. -/
def Like (f g : List ClauseI) : Prop := ∀ p n, sizes (selR f p) n ↔ sizes (selR g p) n
theorem own_like {f g : List ClauseI} (h : Like f g) (p : ByteArray) : ownF f p = ownF g p := by
  unfold ownF
  refine nf_congr fun n => and_congr (h p n) (not_congr ?_)
  cases hp : p.toList.isEmpty with
  | true => rw [sel_empty f hp, sel_empty g hp]
  | false => rw [← sel_parent f hp, ← sel_parent g hp]; exact h _ n
theorem own_pre (f : List ClauseI) {p : ByteArray} (h : ownF f p ≠ []) : p ∈ preS f := by
  obtain ⟨r, hr⟩ := List.exists_mem_of_ne_nil _ h
  have hok := (ownF_is f p).1.ok r hr
  unfold Ok1 at hok
  obtain ⟨hd, ha⟩ := ((ownF_is f p).2 r.lo).1 ⟨r, hr, Int.le_refl _, hok.2.1⟩
  obtain ⟨n0, n1, c, hc, h1, h2, h3⟩ := (D_iff f p _).1 hd
  refine (mem_preS f p).2 ⟨c, hc, ?_⟩
  exact Classical.byContradiction fun hne => ha ((A_iff f p _).2 ⟨n0, n1, c, hc, hne, h1, h2, h3⟩)
theorem flat_filter (o : ByteArray → List Rng) : ∀ l : List ByteArray, l.flatMap (fun p => (o p).map (mkC p)) = (l.filter fun p => !(o p).isEmpty).flatMap fun p => (o p).map (mkC p)
  | [] => rfl
  | p :: l => by
    rw [List.flatMap_cons, flat_filter o l, List.filter_cons]
    cases h : o p with
    | nil => simp [h]
    | cons a t => simp [h]
theorem norm_like {f g : List ClauseI} (h : Like f g) : normF f = normF g := by
  have ho : ownF f = ownF g := funext fun p => own_like h p
  unfold normF normL
  rw [flat_filter (ownF f), flat_filter (ownF g), ho]
  congr 1
  refine srtL_eq blt_strict ((setL_srt blt_strict _).sublist List.filter_sublist) ((setL_srt blt_strict _).sublist List.filter_sublist) fun p => ?_
  rw [List.mem_filter, List.mem_filter]
  constructor
  · rintro ⟨_, h2⟩
    exact ⟨own_pre g (by intro e; rw [e] at h2; cases h2), h2⟩
  · rintro ⟨_, h2⟩
    exact ⟨own_pre f (by rw [ho]; intro e; rw [e] at h2; cases h2), h2⟩
theorem norm_iff (f g : List ClauseI) : normF f = normF g ↔ Like f g :=
  ⟨fun h p n => by rw [← D_norm f, h, D_norm g], norm_like⟩
theorem norm_again (f : List ClauseI) : normF (normF f) = normF f := norm_like fun p n => D_norm f p n
/-- Like at all prefixes: like. -/
theorem like_at {f g : List ClauseI} (h : ∀ p ∈ preS f ++ preS g, ∀ n, sizes (selR f p) n ↔ sizes (selR g p) n) : Like f g := by
  have go : ∀ {f g : List ClauseI}, (∀ p ∈ preS f, ∀ n, sizes (selR f p) n → sizes (selR g p) n) → ∀ p n, sizes (selR f p) n → sizes (selR g p) n := fun {f g} h p n hd => by
    obtain ⟨n0, n1, c, hc, h1, h2, h3⟩ := (D_iff f p n).1 hd
    obtain ⟨_, _, c', hc', k1, k2⟩ := (D_iff g _ n).1 (h c.pre ((mem_preS f _).2 ⟨c, hc, rfl⟩) n ((D_iff f _ n).2 ⟨n0, n1, c, hc, cov_refl _, h2, h3⟩))
    exact (D_iff g p n).2 ⟨n0, n1, c', hc', cov_trans k1 h1, k2⟩
  exact fun p n => ⟨go (fun p hp n hd => (h p (List.mem_append_left _ hp) n).1 hd) p n, go (fun p hp n hd => (h p (List.mem_append_right _ hp) n).2 hd) p n⟩
theorem cutsB_iff (n : Int) (c : ClauseI) : cutsB n ⟨c.lo, c.hi⟩ = true ↔ 0 ≤ n ∧ n ≤ 200 ∧ c.lo ≤ n ∧ n ≤ c.hi := by
  rw [cutsB_eq]
  simp only [Bool.and_eq_true, decide_eq_true_eq]
  exact ⟨fun h => ⟨h.1.1.1, h.1.1.2, h.1.2, h.2⟩, fun h => ⟨⟨⟨h.1, h.2.1⟩, h.2.2.1⟩, h.2.2.2⟩⟩
theorem hit_iff (f : List ClauseI) (x : FileI) : f.any (hitB x) = true ↔ (∃ c ∈ f, cov c.pre x.p = true ∧ x.dead = true) ∨ sizes (selR f x.p) x.size := by
  rw [List.any_eq_true, D_iff]
  constructor
  · rintro ⟨c, hc, h⟩
    unfold hitB at h
    rw [Bool.and_eq_true, Bool.or_eq_true, cutsB_iff] at h
    obtain ⟨h1, h2 | ⟨h2, h3, h4⟩⟩ := h
    · exact .inl ⟨c, hc, h1, h2⟩
    · exact .inr ⟨h2, h3, c, hc, h1, h4⟩
  · rintro (⟨c, hc, h1, h2⟩ | ⟨h2, h3, c, hc, h1, h4⟩)
    · exact ⟨c, hc, by unfold hitB; rw [Bool.and_eq_true, Bool.or_eq_true]; exact ⟨h1, .inl h2⟩⟩
    · exact ⟨c, hc, by unfold hitB; rw [Bool.and_eq_true, Bool.or_eq_true, cutsB_iff]; exact ⟨h1, .inr ⟨h2, h3, h4⟩⟩⟩
/-- The normal form matches the same files. -/
theorem norm_hits {f : List ClauseI} (hs : ∀ c ∈ f, rightC c = true) (x : FileI) : (normF f).any (hitB x) = f.any (hitB x) := by
  rw [Bool.eq_iff_iff, hit_iff, hit_iff, D_norm]
  refine or_congr ?_ Iff.rfl
  constructor
  · rintro ⟨c, hc, h1, h2⟩
    obtain ⟨q, hq, r, _, rfl⟩ := (mem_normF f c).1 hc
    obtain ⟨c', hc', rfl⟩ := (mem_preS f q).1 hq
    exact ⟨c', hc', h1, h2⟩
  · rintro ⟨c, hc, h1, h2⟩
    have hr := hs c hc
    unfold rightC at hr
    simp only [Bool.and_eq_true, decide_eq_true_eq] at hr
    obtain ⟨_, _, c', hc', k1, _⟩ := (D_iff (normF f) x.p c.lo).1 ((D_norm f x.p c.lo).2 ((D_iff f x.p c.lo).2 ⟨hr.2.1, by omega, c, hc, h1, Int.le_refl _, hr.2.2.1⟩))
    exact ⟨c', hc', k1, h2⟩
theorem normF_light {f : List ClauseI} (h : LightF f) : LightF (normF f) := fun c hc => by
  obtain ⟨q, hq, r, _, rfl⟩ := (mem_normF f c).1 hc
  obtain ⟨c', hc', rfl⟩ := (mem_preS f q).1 hq
  exact h c' hc'
theorem normF_len {f : List ClauseI} {N : Nat} (h : f.length ≤ N) : (normF f).length ≤ 101 * N := by
  have h1 := normL_len f (preS f)
  have h2 := preS_len f
  unfold normF
  exact Nat.le_trans h1 (Nat.mul_le_mul_left _ (Nat.le_trans h2 h))
end Go.Proofs.YtjnjamhohnnefaaGreatDoor
namespace Go.Proofs.YtjnjamhohnnefaaGreatDoor
set_option linter.unusedSimpArgs false
set_option linter.unusedVariables false
open Go.RowKit Go.Sort

theorem preS_take {l : List ClauseI} {k : Nat} (h : k < l.length) : preS (l.take (k + 1)) = insL blt l[k].pre (preS (l.take k)) := by
  unfold preS
  rw [List.take_succ_eq_append_getElem h, List.map_append]
  exact setL_snoc _ _
theorem row_weak {w : World} {B B' : Nat} {e : TypeId} {sz : Nat} {v : Value} {n : Nat} {xs : List Value} (h : w.ownsRow B e sz v n xs) (hB : B' ≤ B) : w.ownsRow B' e sz v n xs := by
  obtain ⟨h1, h2 | ⟨g, cap, cs, h3, h4, h5⟩⟩ := h
  · exact ⟨h1, .inl h2⟩
  · exact ⟨h1, .inr ⟨g, cap, cs, h3, Nat.le_trans hB h4, h5⟩⟩
/-- A row of one's own, made since. -/
def OwnS (l : List ByteArray) (B : Nat) (v : Value) (w : World) : Prop := (l.length = 0 → v = .slice none 0 0) ∧ w.ownsRow B 9 1 v l.length (l.map strC).flatten
theorem OwnS.row {l : List ByteArray} {B : Nat} {v : Value} {w : World} (h : OwnS l B v w) : RowAt strC 1 l v w := RowAt.of_row str_coded h.2 h.1
theorem OwnS.ext {l : List ByteArray} {B : Nat} {v : Value} {w w' : World} (h : OwnS l B v w) (he : Ext w w') : OwnS l B v w' := ⟨h.1, ownsRow_ext h.2 he⟩
set_option maxRecDepth 100000 in
set_option maxHeartbeats 4000000 in
theorem rprefixes_f (w : World) (v : Value) (l : List ClauseI) (h : Sl w 3 v (l.map ClauseI.cells)) (hl : l.length ≤ 5000) : Calls Tryz.prog 80 #[v] w (RetQ (OwnS (preS l) w.heap.size) w) := by
  obtain ⟨A, c, rfl, h1, h2, h3⟩ := sl_get h
  unfold maxLen at h2
  clear h
  go_enter Tryz.func80, Tryz.ntmps80
  go_wp2_with fail
  go_loopw [3, 4] (fun v i wr => ∃ (k : Nat) (ov : Value), k ≤ l.length ∧ i = .int .i64 k ∧ ov = v ∧ Ext w wr ∧ OwnS (preS (l.take k)) w.heap.size ov wr) (fun _ i _ => l.length - (intOf i).toNat)
  case atStart => exact ⟨0, _, by omega, rfl, rfl, Ext.refl _, fun _ => rfl, ownsRow_nil _ _ _ _⟩
  case round =>
    obtain ⟨k, v, hk, rfl, rfl, hE, hR⟩ := hrel
    have HE := hid hE
    by_cases hlt : k < l.length
    · obtain ⟨b', o', rfl, lb', hcell'⟩ := h3 (by omega)
      have c0 := hE.cell (hcell' k hlt 0 _ rfl)
      rw [Nat.add_zero] at c0
      have lbr := Nat.lt_of_lt_of_le lb' hE.size
      have HP1 := hid (preS_take hlt)
      have hal := preS_len (l.take k)
      rw [List.length_take] at hal
      have hnil := hR.1
      have HR := hid hR
      obtain ⟨A2, c2, rfl, g1, g2, g3⟩ := sl_get hR.row.1
      unfold maxLen at g2
      clear hE hcell' h3 hR
      generalize l[k].pre = p at c0 HP1
      generalize preS (l.take k) = acc at *
      have hr := rankL_le (lt := blt) p acc
      have hlow := rankL_lt (lt := blt) p acc
      have hat := rankL_at (lt := blt) p acc
      have HP : Hid (insL blt p acc = if acc[rankL blt p acc]? = some p then acc else acc.take (rankL blt p acc) ++ p :: acc.drop (rankL blt p acc)) := rfl
      have HN := hid hnil
      clear hnil
      generalize rankL blt p acc = r at hr hlow hat HP
      generalize insL blt p acc = out at HP HP1
      have HLow := hid hlow
      have HAt := hid hat
      clear hlow hat
      go_wp2_with fail
      go_loopw [6] (fun i WI => ∃ j : Nat, j ≤ r ∧ i = .int .i64 j ∧ Ext wr WI) (fun i _ => r - (intOf i).toNat)
      case atStart => exact ⟨0, by omega, rfl, Ext.refl _⟩
      case round =>
        obtain ⟨j, hj, rfl, hEi⟩ := hrel
        have HEi := hid (HE.out.trans hEi)
        by_cases hjr : j < r
        · have hjl : j < acc.length := by omega
          obtain ⟨b, o, rfl, lb, hcell⟩ := g3 (by omega)
          have d0 := hEi.cell (hcell j hjl 0 (.string acc[j]) rfl)
          simp only [Nat.mul_one, Nat.add_zero] at d0
          have lbw := Nat.lt_of_lt_of_le lb hEi.size
          have hb : Op.bytesLess acc[j].toList p.toList = true := HLow.out j hjl hjr
          have HE3 := hid hEi
          clear hcell g3 hEi
          generalize acc[j] = z at d0 hb
          go_wp2_with fail
          go_roundw
          case rel => exact ⟨j + 1, by omega, by go_num, HE3.out⟩
          case measure => simp [intOf]; omega
        · obtain rfl : j = r := by omega
          by_cases hjl : j < acc.length
          · obtain ⟨b, o, rfl, lb, hcell⟩ := g3 (by omega)
            have d0 := hEi.cell (hcell j hjl 0 (.string acc[j]) rfl)
            simp only [Nat.mul_one, Nat.add_zero] at d0
            have lbw := Nat.lt_of_lt_of_le lb hEi.size
            have hb : Op.bytesLess acc[j].toList p.toList = false := HAt.out hjl
            have HL := hid hcell
            have HQ : Hid (acc[j]? = some acc[j]) := List.getElem?_eq_getElem hjl
            have HE3 := hid hEi
            have dj : ((j : Int) == acc.length) = false := by simp; omega
            have djl : decide (j < acc.length) = true := decide_eq_true hjl
            clear hcell g3 hEi hjr HLow HAt
            generalize acc[j] = z at d0 hb HQ
            by_cases hz : z = p
            · subst hz
              have HP2 : Hid (out = acc) := by unfold Hid; rw [HP.out, if_pos HQ.out]
              have hs : (z.toList == z.toList) = true := by simp
              go_wp2_with fail
              exact ⟨⟨k + 1, _, by omega, by go_num, rfl, HEi.out, by rw [HP1.out, HP2.out]; exact HR.out.ext HE3.out⟩, by simp [intOf]; omega⟩
            · have hs : (z.toList == p.toList) = false := by rw [beq_toList]; simp [hz]
              obtain ⟨va, wa, vb, wb, vc, wc, ra, rb, rc, o2, ex, ea⟩ := app_three (P := Tryz.prog) str_elem (wr := wr) j (acc.length - j) ((acc.take j).map strC).flatten ((acc.drop j).map strC).flatten (strC p) (.slice (some ⟨b, o, none⟩) j c2) (.slice (if c2 = j then some ⟨b, o, none⟩ else some ⟨b, o + j * 1, none⟩) (acc.length - j) (c2 - j)) (by omega) (by omega) (by omega) rfl (str_coded.one p)
                (fun W hW => src_take Tryz.underlying87 str_coded HL.out j c2 (by omega) (HE3.out.trans hW)) (fun W hW => src_drop Tryz.underlying87 str_coded HL.out j c2 (by omega) g1 (HE3.out.trans hW))
              have HO := hid o2
              have HX := hid ex
              have hck : ¬ c2 = j := by omega
              have hout : out = acc.take j ++ p :: acc.drop j := by rw [HP.out, if_neg (by rw [HQ.out]; exact fun e => hz (Option.some.inj e))]
              have HLen : Hid (out.length = j + 1 + (acc.length - j)) := by unfold Hid; rw [hout]; simp; omega
              have HFl : Hid ((out.map strC).flatten = ((acc.take j).map strC).flatten ++ strC p ++ ((acc.drop j).map strC).flatten) := by unfold Hid; rw [hout]; simp
              rw [if_neg hck, Nat.mul_one] at rc
              unfold strC at rb
              clear o2 ex ea hout hz HQ HP HR HN HL
              go_wp2_with (first
                | (at_builtin; refine wpList_app rfl (.tmp 45) (.tmp 48) _ _ rfl rfl rfl ra ?_)
                | (at_builtin; refine wpList_app rfl (.tmp 50) (.tmp 52) _ _ rfl rfl rfl rb ?_)
                | (at_builtin; refine wpList_app rfl (.tmp 54) (.tmp 57) _ _ rfl rfl rfl rc ?_))
              all_goals exact ⟨⟨k + 1, _, by omega, by go_num, rfl, HEi.out.trans HX.out, by rw [HP1.out]; exact ⟨fun h0 => by rw [HLen.out] at h0; omega, by rw [HLen.out, HFl.out]; exact row_weak HO.out HEi.out.size⟩⟩, by simp [intOf]; omega⟩
          · have dj : ((j : Int) == acc.length) = true := by simp; omega
            have djl : decide (j < acc.length) = false := decide_eq_false hjl
            have HE3 := hid hEi
            by_cases h0 : acc.length = 0
            · have hnil := HN.out h0
              injection hnil with hA hn hc0
              subst hA hc0
              have hl0 : acc = [] := List.eq_nil_of_length_eq_zero h0
              subst hl0
              have hk0 : j = 0 := by omega
              subst hk0
              have hout : out = [p] := by rw [HP.out]; simp
              have HLen : Hid (out.length = 0 + 1 + 0) := by unfold Hid; rw [hout]; rfl
              have HFl : Hid ((out.map strC).flatten = [] ++ strC p ++ []) := by unfold Hid; rw [hout]; simp
              clear hout g3 hEi HN HP HR HLow HAt
              obtain ⟨va, wa, vb, wb, vc, wc, ra, rb, rc, o2, ex, ea⟩ := app_three (P := Tryz.prog) str_elem (wr := wr) 0 0 [] [] (strC p) (.slice none 0 0) (.slice none 0 0) (by omega) (by omega) (by omega) rfl (str_coded.one p)
                (fun W hW => Src.ofNil W Tryz.underlying87 0) (fun W hW => Src.ofNil W Tryz.underlying87 0)
              have HO := hid o2
              have HX := hid ex
              unfold strC at rb
              clear o2 ex ea
              go_wp2_with (first
                | (at_builtin; refine wpList_app rfl (.tmp 45) (.tmp 48) _ _ rfl rfl rfl ra ?_)
                | (at_builtin; refine wpList_app rfl (.tmp 50) (.tmp 52) _ _ rfl rfl rfl rb ?_)
                | (at_builtin; refine wpList_app rfl (.tmp 54) (.tmp 57) _ _ rfl rfl rfl rc ?_))
              all_goals exact ⟨⟨k + 1, _, by omega, by go_num, rfl, HEi.out.trans HX.out, by rw [HP1.out]; exact ⟨fun h0 => by rw [HLen.out] at h0; omega, by rw [HLen.out, HFl.out]; exact row_weak HO.out HEi.out.size⟩⟩, by simp [intOf]; omega⟩
            · obtain ⟨b, o, rfl, lb, hcell⟩ := g3 (by omega)
              have HL := hid hcell
              have hout : out = acc.take j ++ p :: acc.drop j := by rw [HP.out, if_neg (by rw [List.getElem?_eq_none (by omega)]; simp)]
              have HLen : Hid (out.length = j + 1 + (acc.length - j)) := by unfold Hid; rw [hout]; simp; omega
              have HFl : Hid ((out.map strC).flatten = ((acc.take j).map strC).flatten ++ strC p ++ ((acc.drop j).map strC).flatten) := by unfold Hid; rw [hout]; simp
              clear hcell g3 hEi HP HR hout HLow HAt HN
              obtain ⟨va, wa, vb, wb, vc, wc, ra, rb, rc, o2, ex, ea⟩ := app_three (P := Tryz.prog) str_elem (wr := wr) j (acc.length - j) ((acc.take j).map strC).flatten ((acc.drop j).map strC).flatten (strC p) (.slice (some ⟨b, o, none⟩) j c2) (.slice (if c2 = j then some ⟨b, o, none⟩ else some ⟨b, o + j * 1, none⟩) (acc.length - j) (c2 - j)) (by omega) (by omega) (by omega) rfl (str_coded.one p)
                (fun W hW => src_take Tryz.underlying87 str_coded HL.out j c2 (by omega) (HE3.out.trans hW)) (fun W hW => src_drop Tryz.underlying87 str_coded HL.out j c2 (by omega) g1 (HE3.out.trans hW))
              have HO := hid o2
              have HX := hid ex
              rw [Nat.mul_one] at rc
              unfold strC at rb
              clear o2 ex ea
              go_wp2_with (first
                | (at_builtin; refine wpList_app rfl (.tmp 45) (.tmp 48) _ _ rfl rfl rfl ra ?_)
                | (at_builtin; refine wpList_app rfl (.tmp 50) (.tmp 52) _ _ rfl rfl rfl rb ?_)
                | (at_builtin; refine wpList_app rfl (.tmp 54) (.tmp 57) _ _ rfl rfl rfl rc ?_))
              all_goals exact ⟨⟨k + 1, _, by omega, by go_num, rfl, HEi.out.trans HX.out, by rw [HP1.out]; exact ⟨fun h0 => by rw [HLen.out] at h0; omega, by rw [HLen.out, HFl.out]; exact row_weak HO.out HEi.out.size⟩⟩, by simp [intOf]; omega⟩
    · obtain rfl : k = l.length := by omega
      rw [List.take_length] at hR
      have HR := hid hR
      clear hE h3 hR
      go_wp2_with fail
      go_ret
      exact ⟨_, rfl, HR.out, HE.out⟩
theorem rprefixes_c (w : World) (v : Value) (l : List ClauseI) (h : Sl w 3 v (l.map ClauseI.cells)) (hl : l.length ≤ 5000) : Calls Tryz.prog 80 #[v] w (RetQ (RowAt strC 1 (preS l)) w) :=
  (rprefixes_f w v l h hl).mono fun e w' ⟨v', he, hr, hx⟩ => ⟨v', he, hr.row, hx⟩
end Go.Proofs.YtjnjamhohnnefaaGreatDoor
namespace Go.Proofs.YtjnjamhohnnefaaGreatDoor
set_option linter.unusedSimpArgs false
set_option linter.unusedVariables false
open Go.RowKit Go.Sort

theorem nil_of_form {S : Int → Prop} {l : List Rng} (hf : IsForm l) (h : ∀ n, memS l n ↔ S n) : l.length = 0 ↔ ∀ n, ¬ S n := by
  constructor
  · intro h0 n hs
    have := (h n).2 hs
    rw [List.eq_nil_of_length_eq_zero h0, memS_nil] at this
    exact this
  · intro hn
    rcases l with _ | ⟨r, t⟩
    · rfl
    · have hok := hf.ok r (by simp)
      unfold Ok1 at hok
      exact absurd ((h r.lo).1 ⟨r, by simp, Int.le_refl _, hok.2.1⟩) (hn _)
/-- What the first has at a path and the second has not. -/
noncomputable def difR (f g : List ClauseI) (p : ByteArray) : List Rng := nf fun n => sizes (selR f p) n ∧ ¬ sizes (selR g p) n
theorem difR_nil (f g : List ClauseI) (p : ByteArray) : (difR f g p).length = 0 ↔ ∀ n, sizes (selR f p) n → sizes (selR g p) n := by
  obtain ⟨h1, h2⟩ := diff_form (selR f p) (selR g p)
  rw [show difR f g p = nf fun n => sizes (selR f p) n ∧ ¬ sizes (selR g p) n from rfl, nil_of_form h1 h2]
  constructor
  · intro h n hd
    exact Classical.byContradiction fun hn => h n ⟨hd, hn⟩
  · rintro h n ⟨hd, hn⟩
    exact hn (h n hd)
set_option maxRecDepth 100000 in
set_option maxHeartbeats 8000000 in
theorem ralike_c (w : World) (u v : Value) (f g : List ClauseI) (hu : Sl w 3 u (f.map ClauseI.cells)) (hv : Sl w 3 v (g.map ClauseI.cells)) (lf : f.length ≤ 5000) (lg : g.length ≤ 5000) (sf : LightF f) (sg : LightF g) : Calls Tryz.prog 66 #[u, v] w (Ret (.bool (decide (normF f = normF g))) w) := by
  have HPf := hid (rprefixes_f w u f hu lf)
  have HPg := fun W (hW : Ext w W) => hid (rprefixes_c W v g (hv.ext hW) lg)
  have HSf := fun W (hW : Ext w W) (p : ByteArray) (hp : p.size ≤ 1000) => hid (rsizes_c W u f p (hu.ext hW) lf hp sf)
  have HSg := fun W (hW : Ext w W) (p : ByteArray) (hp : p.size ≤ 1000) => hid (rsizes_c W v g p (hv.ext hW) lg hp sg)
  have HTf := fun W (p : ByteArray) (x y : Value) (hx : Sl W 2 x ((selR f p).map Rng.cells)) (hy : Sl W 2 y ((selR g p).map Rng.cells)) => (by
    have := Sz.rtwo2_f W x y _ _ hx hy
    exact hid this : Hid (Calls Tryz.prog 81 #[x, y, .int .i64 2] W (RetQ (fun v' w' => RowAt Rng.cells 2 (difR f g p) v' w' ∧ Sz.Fresh W v') W)))
  have HTg := fun W (p : ByteArray) (x y : Value) (hx : Sl W 2 x ((selR g p).map Rng.cells)) (hy : Sl W 2 y ((selR f p).map Rng.cells)) => (by
    have := Sz.rtwo2_f W x y _ _ hx hy
    exact hid this : Hid (Calls Tryz.prog 81 #[x, y, .int .i64 2] W (RetQ (fun v' w' => RowAt Rng.cells 2 (difR g f p) v' w' ∧ Sz.Fresh W v') W)))
  have hpf := preS_len f
  have hpg := preS_len g
  obtain ⟨L, hL⟩ : ∃ L, L = (preS f ++ preS g) ++ [(⟨#[]⟩ : ByteArray)] := ⟨_, rfl⟩
  have HLs : Hid (∀ p ∈ L, p.size ≤ 1000) := fun p hp => by
    rw [hL] at hp
    rcases List.mem_append.1 hp with hp | hp
    · rcases List.mem_append.1 hp with hp | hp
      · obtain ⟨c, hc, rfl⟩ := (mem_preS f p).1 hp
        have := sf c hc; omega
      · obtain ⟨c, hc, rfl⟩ := (mem_preS g p).1 hp
        have := sg c hc; omega
    · rw [List.mem_singleton.1 hp]; decide
  have HYes : Hid ((∀ p ∈ L, (difR f g p).length = 0 ∧ (difR g f p).length = 0) → decide (normF f = normF g) = true) := fun h => by
    refine decide_eq_true (norm_like (like_at fun p hp n => ?_))
    obtain ⟨h1, h2⟩ := h p (by rw [hL]; exact List.mem_append_left _ hp)
    exact ⟨(difR_nil f g p).1 h1 n, (difR_nil g f p).1 h2 n⟩
  have HNo : Hid (∀ p, ¬ ((difR f g p).length = 0 ∧ (difR g f p).length = 0) → decide (normF f = normF g) = false) := fun p h => by
    refine decide_eq_false fun e => h ?_
    have hl := (norm_iff f g).1 e
    exact ⟨(difR_nil f g p).2 fun n => (hl p n).1, (difR_nil g f p).2 fun n => (hl p n).2⟩
  have hLl : L.length ≤ 10001 := by rw [hL]; simp; omega
  have HL := hid hL
  obtain ⟨A, c, rfl, _⟩ := sl_get hu
  obtain ⟨B, d, rfl, _⟩ := sl_get hv
  generalize decide (normF f = normF g) = r at HYes HNo ⊢
  generalize preS f = pf at *
  generalize preS g = pg at *
  clear hu hv sf sg hL
  go_enter Tryz.func66, Tryz.ntmps66
  go_wp2_with (first
    | (at_builtin; obtain ⟨v4, w4, hrun4, ho4, hk4, _⟩ := app_one (P := Tryz.prog) str_elem str_coded HO3.out HE3.out.size (⟨#[]⟩ : ByteArray) (by rw [List.length_append]; omega) (by omega); simp only [strC] at hrun4; have HE4 := hid (hk4.toExt HE3.out (fun q hq => (row_block HO3.out q hq).1)); have HO4 : Hid (w4.ownsRow w.heap.size 9 1 v4 L.length (L.map strC).flatten) := (by unfold Hid; rw [HL.out]; exact ho4); clear ho4 hk4; refine wpList_app rfl (.tmp 12) (.tmp 13) _ _ rfl rfl rfl hrun4 ?_)
    | (at_builtin; obtain ⟨v3, w3, hrun3, ho3, hk3, _, _⟩ := app_row (P := Tryz.prog) (ty := 87) str_elem (ownsRow_ext HO1.out.2 HX2.out) (HX1.out.trans HX2.out).size (src_of_sl Tryz.underlying87 str_coded HV2.out.1 (Ext.refl _)) (by unfold maxLen; omega) (by omega); have HE3 := hid (hk3.toExt (HX1.out.trans HX2.out) (fun q hq => (row_block HO1.out.2 q hq).1)); have HO3 : Hid (w3.ownsRow w.heap.size 9 1 v3 (pf ++ pg).length (((pf ++ pg).map strC).flatten)) := (by unfold Hid; simpa using ho3); clear ho3 hk3; refine wpList_app rfl (.tmp 8) (.tmp 10) _ _ rfl rfl rfl hrun3 ?_)
    | (go_at_call 80; have hx0 := HX1.out; clear hx0; refine ((HPg _ HX1.out).out).mono ?_; rintro e w2 ⟨v2, rfl, hv2, hx2⟩; have HV2 := hid hv2; have HX2 := hid hx2; obtain ⟨A2, c2, rfl, _⟩ := sl_get hv2.1; clear hv2 hx2)
    | (go_at_call 80; refine ((HPf).out).mono ?_; rintro e w1 ⟨v1, rfl, ho1, hx1⟩; have HO1 := hid ho1; have HX1 := hid hx1; clear ho1 hx1))
  have hrow := sl_of_row (str_coded.sizes L) (by rw [List.length_map]; exact HO4.out)
  obtain ⟨A4, c4, hA4, p1, p2, p3⟩ := sl_get hrow
  subst hA4
  unfold maxLen at p2
  clear hrow HO4 HO3 HO1 HV2 HL
  go_loopw [6] (fun i wr => ∃ k : Nat, k ≤ L.length ∧ i = .int .i64 k ∧ Ext w4 wr ∧ Hid (∀ j (hj : j < L.length), j < k → (difR f g L[j]).length = 0 ∧ (difR g f L[j]).length = 0)) (fun i _ => L.length - (intOf i).toNat)
  case atStart => exact ⟨0, by omega, rfl, Ext.refl _, fun j _ hj => by omega⟩
  case round =>
    obtain ⟨k, hk, rfl, hE, hno⟩ := hrel
    have HE := hid hE
    by_cases hlt : k < L.length
    · obtain ⟨b, o, rfl, lb, hcell⟩ := p3 (by omega)
      have c0 := hE.cell (hcell k hlt 0 (.string L[k]) rfl)
      simp only [Nat.mul_one, Nat.add_zero] at c0
      have lbr := Nat.lt_of_lt_of_le lb hE.size
      have hpz := HLs.out _ (List.getElem_mem hlt)
      have hEw := HE4.out.trans hE
      have HS1 := fun W (hW : Ext wr W) => HSf W (hEw.trans hW) L[k] hpz
      have HS2 := fun W (hW : Ext wr W) => HSg W (hEw.trans hW) L[k] hpz
      have HT1 := fun W (hW : Ext wr W) x y (hx : Sl W 2 x ((selR f L[k]).map Rng.cells)) (hy : Sl W 2 y ((selR g L[k]).map Rng.cells)) => (hid ((HTf W L[k] x y hx hy).out.mono fun e w' ⟨v', he, hr, hx⟩ => ⟨v', he, ⟨hr.1, hr.2.early hW⟩, hx⟩) : Hid (Calls Tryz.prog 81 #[x, y, .int .i64 2] W (RetQ (fun v' w' => RowAt Rng.cells 2 (difR f g L[k]) v' w' ∧ Sz.Fresh wr v') W)))
      have HT2 := fun W (hW : Ext wr W) x y (hx : Sl W 2 x ((selR g L[k]).map Rng.cells)) (hy : Sl W 2 y ((selR f L[k]).map Rng.cells)) => (hid ((HTg W L[k] x y hx hy).out.mono fun e w' ⟨v', he, hr, hx⟩ => ⟨v', he, ⟨hr.1, hr.2.early hW⟩, hx⟩) : Hid (Calls Tryz.prog 81 #[x, y, .int .i64 2] W (RetQ (fun v' w' => RowAt Rng.cells 2 (difR g f L[k]) v' w' ∧ Sz.Fresh wr v') W)))
      have HN1 := hid (HNo.out L[k])
      have HNx : Hid ((difR f g L[k]).length = 0 ∧ (difR g f L[k]).length = 0 → ∀ j (hj : j < L.length), j < k + 1 → (difR f g L[j]).length = 0 ∧ (difR g f L[j]).length = 0) := fun e j hj hjk => by
        by_cases hjk' : j = k
        · subst hjk'; exact e
        · exact hno.out j hj (by omega)
      have hl1 : (difR f g L[k]).length ≤ 101 := form_len (diff_form _ _).1
      have hl2 : (difR g f L[k]).length ≤ 101 := form_len (diff_form _ _).1
      clear hcell p3 hE hno hEw HSf HSg HTf HTg HNo HYes HLs
      generalize difR f g L[k] = da at HT1 HN1 HNx hl1
      generalize difR g f L[k] = db at HT2 HN1 HNx hl2
      generalize selR f L[k] = sa at HS1 HT1 HT2
      generalize selR g L[k] = sb at HS2 HT1 HT2
      generalize L[k] = p at c0 HS1 HS2 hpz
      go_wp2_with fail
      refine wp_region_any_order (by kernel_rfl) (by kernel_rfl) (by kernel_rfl) ?_
      repeat (first
        | (refine AWq.val rfl rfl rfl rfl (fun K hK => ?_); go_big_quiet_op; refine hK _ ?_; clear hK K)
        | (refine AWq.skip rfl rfl rfl ?_; simp only [Act.put, List.setIfInBounds_toArray, List.set_cons_succ, List.set_cons_zero])
        | (refine AWq.callQ (RowAt Rng.cells 2 sa) (RowAt.steady _ _ _) rfl Tryz.func82 (by kernel_rfl) (by kernel_rfl) rfl rfl rfl (fun wc hc => ?_) ?_; (· (simp only [argsOf, anyAt, ↓reduceIte, Nat.reduceEqDiff, Array.getD_eq_getD_getElem?, List.getElem?_toArray, List.getElem?_cons_succ, List.getElem?_cons_zero, Option.getD_some]; with_reducible exact (HS1 _ hc).out)))
        | (refine AWq.callQ (RowAt Rng.cells 2 sb) (RowAt.steady _ _ _) rfl Tryz.func82 (by kernel_rfl) (by kernel_rfl) rfl rfl rfl (fun wc hc => ?_) ?_; (· (simp only [argsOf, anyAt, ↓reduceIte, Nat.reduceEqDiff, Array.getD_eq_getD_getElem?, List.getElem?_toArray, List.getElem?_cons_succ, List.getElem?_cons_zero, Option.getD_some]; with_reducible exact (HS2 _ hc).out)))
        | (refine AWq.callQ ((fun v w' => RowAt Rng.cells 2 da v w' ∧ Sz.Fresh wr v)) ((fun v _ _ he h => ⟨h.1.ext he, h.2⟩)) rfl Tryz.func81 (by kernel_rfl) (by kernel_rfl) rfl rfl rfl (fun wc hc => ?_) ?_; (· (simp only [argsOf, anyAt, ↓reduceIte, Nat.reduceEqDiff, Array.getD_eq_getD_getElem?, List.getElem?_toArray, List.getElem?_cons_succ, List.getElem?_cons_zero, Option.getD_some]; intro y hy z hz; have hy' := hy.1; have hz' := hz.1; with_reducible exact (HT1 _ hc _ _ hy' hz').out)))
        | (refine AWq.callQ ((fun v w' => RowAt Rng.cells 2 db v w' ∧ Sz.Fresh wr v)) ((fun v _ _ he h => ⟨h.1.ext he, h.2⟩)) rfl Tryz.func81 (by kernel_rfl) (by kernel_rfl) rfl rfl rfl (fun wc hc => ?_) ?_; (· (simp only [argsOf, anyAt, ↓reduceIte, Nat.reduceEqDiff, Array.getD_eq_getD_getElem?, List.getElem?_toArray, List.getElem?_cons_succ, List.getElem?_cons_zero, Option.getD_some]; intro y hy z hz; have hy' := hy.1; have hz' := hz.1; with_reducible exact (HT2 _ hc _ _ hy' hz').out)))
        | ((refine AWq.opQ (fun v _ => v = .int .i64 da.length) (fun v _ _ he h => h) rfl (fun a wc hc hl' => ⟨rfl, ?_⟩) ?_; (· (have e := hl' 33 (of_decide_eq_true (by kernel_rfl)); obtain ⟨A9, c9, hy, _⟩ := sl_get e.1.1; clear e hl'; go_simp; exact ⟨rfl, Ext.refl _⟩))))
        | ((refine AWq.opQ (fun v _ => v = .int .i64 db.length) (fun v _ _ he h => h) rfl (fun a wc hc hl' => ⟨rfl, ?_⟩) ?_; (· (have e := hl' 47 (of_decide_eq_true (by kernel_rfl)); obtain ⟨A9, c9, hy, _⟩ := sl_get e.1.1; clear e hl'; go_simp; exact ⟨rfl, Ext.refl _⟩))))
        | ((refine AWq.opQ (fun v _ => v = .int .i64 ((da.length : Int) + db.length)) (fun v _ _ he h => h) rfl (fun a wc hc hl' => ⟨rfl, ?_⟩) ?_; (· (have e1 : a.tmps.getD 34 undef = .int .i64 da.length := hl' 34 (of_decide_eq_true (by kernel_rfl)); have e2 : a.tmps.getD 48 undef = .int .i64 db.length := hl' 48 (of_decide_eq_true (by kernel_rfl)); clear hl'; go_simp; exact ⟨by rw [IntWalk.i64_in _ (by omega)], Ext.refl _⟩))))
        | ((refine AWq.opQ (fun v _ => v = .bool (decide ((0 : Int) < (da.length : Int) + db.length))) (fun v _ _ he h => h) rfl (fun a wc hc hl' => ⟨rfl, ?_⟩) ?_; (· (have e1 : a.tmps.getD 49 undef = .int .i64 ((da.length : Int) + db.length) := hl' 49 (of_decide_eq_true (by kernel_rfl)); clear hl'; go_simp; exact ⟨rfl, Ext.refl _⟩)))))
      refine AWq.done rfl rfl rfl (fun w6 x6 => ?_)
      simp only [closeAny, Act.put, List.setIfInBounds_toArray, List.set_cons_succ, List.set_cons_zero]
      intro u50 h50 _ _ _ _ _ _ _ _ _ _ _ _ _ _ _ _ _ _
      subst h50
      by_cases hz : da.length = 0 ∧ db.length = 0
      · have d0 : decide ((0 : Int) < (da.length : Int) + db.length) = false := by simp; omega
        have HNx := hid (HNx.out hz)
        clear HN1 hz HT1 HT2 HS1 HS2
        rw [d0]
        go_wp2_with fail
        go_roundw
        case rel => exact ⟨k + 1, by omega, by go_num, HE.out.trans x6, HNx.out⟩
        case measure => simp [intOf]; omega
      · have d0 : decide ((0 : Int) < (da.length : Int) + db.length) = true := by simp; omega
        have HN1 := hid (HN1.out hz)
        clear HNx hz HT1 HT2 HS1 HS2
        rw [d0]
        go_wp2_with fail
        go_ret
        exact ⟨by rw [HN1.out]; rfl, HE4.out.trans (HE.out.trans x6)⟩
    · obtain rfl : k = L.length := by omega
      have hr : Hid (r = true) := HYes.out fun p hp => by
        obtain ⟨j, hj, rfl⟩ := List.getElem_of_mem hp
        exact hno.out j hj hj
      clear hE p3 hno HYes HNo HLs HSf HSg HTf HTg
      go_wp2_with fail
      go_ret
      exact ⟨by rw [hr.out]; rfl, HE4.out.trans HE.out⟩
end Go.Proofs.YtjnjamhohnnefaaGreatDoor
namespace Go.Proofs.YtjnjamhohnnefaaGreatDoor
set_option linter.unusedSimpArgs false
set_option linter.unusedVariables false
open Go.RowKit Go.Sort

def saneF (f : List ClauseI) : List ClauseI := f.filter rightC
theorem saneF_take {f : List ClauseI} {k : Nat} (h : k < f.length) : saneF (f.take (k + 1)) = if rightC f[k] then saneF (f.take k) ++ [f[k]] else saneF (f.take k) := by
  unfold saneF
  rw [List.take_succ_eq_append_getElem h, List.filter_append, List.filter_cons, List.filter_nil]
  split <;> simp
theorem saneF_len (f : List ClauseI) (k : Nat) : (saneF (f.take k)).length ≤ k := by
  have h1 := List.length_filter_le rightC (f.take k)
  rw [List.length_take] at h1
  unfold saneF
  omega
/-- '==' of clauses. -/
def eqC (p : ByteArray) (a b : Int) (q : ByteArray) (c d : Int) : Bool := decide (p = q ∧ a = c ∧ b = d)
theorem run_eq_clause (p : ByteArray) (a b : Int) (q : ByteArray) (c d : Int) (w : World) : (Op.equalIn 10000 65 (.agg #[.string p, .int .i64 a, .int .i64 b]) (.agg #[.string q, .int .i64 c, .int .i64 d])).run Tryz.prog w = .ok (eqC p a b q c d) w := by
  have h0 : (p.toList == q.toList) = decide (p = q) := beq_toList p q
  unfold eqC
  by_cases h1 : p = q <;> by_cases h2 : a = c <;> by_cases h3 : b = d <;> simp [go_sem, h1, h2, h3] <;> simp_all
attribute [go_sem 2000] run_eq_clause
set_option maxRecDepth 100000 in
set_option maxHeartbeats 4000000 in
theorem requal_c (w : World) (u v : Value) (a b : List ClauseI) (hu : Sl w 3 u (a.map ClauseI.cells)) (hv : Sl w 3 v (b.map ClauseI.cells)) : Calls Tryz.prog 16 #[u, v] w (Ret (.bool (decide (a = b))) w) := by
  obtain ⟨A, c, rfl, h1, h2, h3⟩ := sl_get hu
  obtain ⟨B, d, rfl, k1, k2, k3⟩ := sl_get hv
  have HR : Hid ((a ≠ b → decide (a = b) = false) ∧ (a = b → decide (a = b) = true)) := ⟨fun h => decide_eq_false h, fun h => decide_eq_true h⟩
  generalize decide (a = b) = r at HR ⊢
  clear hu hv
  unfold maxLen at h2 k2
  by_cases hlen : a.length = b.length
  · have dl : ((a.length : Int) != b.length) = false := by simp [hlen]
    go_enter Tryz.func16, Tryz.ntmps16
    go_wp2_with fail
    go_loopw [5] (fun i wr => ∃ k : Nat, k ≤ a.length ∧ i = .int .i64 k ∧ Ext w wr ∧ Hid (a.take k = b.take k)) (fun i _ => a.length - (intOf i).toNat)
    case atStart => exact ⟨0, by omega, rfl, Ext.refl _, rfl⟩
    case round =>
      obtain ⟨k, hk, rfl, hE, ht⟩ := hrel
      have HE := hid hE
      by_cases hka : k < a.length
      · have hkb : k < b.length := by omega
        obtain ⟨b1, o1, rfl, lb1, hcell1⟩ := h3 (by omega)
        obtain ⟨b2, o2, rfl, lb2, hcell2⟩ := k3 (by omega)
        have c0 := hE.cell (hcell1 k hka 0 _ rfl)
        have c1 := hE.cell (hcell1 k hka 1 _ rfl)
        have c2 := hE.cell (hcell1 k hka 2 _ rfl)
        have d0 := hE.cell (hcell2 k hkb 0 _ rfl)
        have d1 := hE.cell (hcell2 k hkb 1 _ rfl)
        have d2 := hE.cell (hcell2 k hkb 2 _ rfl)
        rw [Nat.add_zero] at c0 d0
        have lr1 := Nat.lt_of_lt_of_le lb1 hE.size
        have lr2 := Nat.lt_of_lt_of_le lb2 hE.size
        have HNe : Hid (a[k] ≠ b[k] → r = false) := fun h => HR.out.1 (fun e => h (by subst e; rfl))
        have HNx : Hid (a[k] = b[k] → a.take (k + 1) = b.take (k + 1)) := fun h => by
          rw [List.take_succ_eq_append_getElem hka, List.take_succ_eq_append_getElem hkb, ht.out, h]
        clear hcell1 hcell2 h3 k3 hE ht HR
        generalize a[k] = x at c0 c1 c2 HNe HNx
        generalize b[k] = y at d0 d1 d2 HNe HNx
        by_cases hxy : x = y
        · have e1 : eqC x.pre x.lo x.hi y.pre y.lo y.hi = true := by subst hxy; simp [eqC]
          have HNx := hid (HNx.out hxy)
          clear HNe hxy
          go_wp2_with fail
          refine wp_region_any_order (by kernel_rfl) (by kernel_rfl) (by kernel_rfl) ?_
          repeat (first
            | (refine AWq.val rfl rfl rfl rfl (fun K hK => ?_); go_big_quiet_op; refine hK _ ?_; clear hK K)
            | (refine AWq.skip rfl rfl rfl ?_; simp only [Act.put, List.setIfInBounds_toArray, List.set_cons_succ, List.set_cons_zero]))
          refine AWq.done rfl rfl rfl (fun w5 x5 => ?_)
          simp only [closeAny, Act.put, List.setIfInBounds_toArray, List.set_cons_succ, List.set_cons_zero]
          go_wp2_with fail
          go_roundw
          case rel => exact ⟨k + 1, by omega, by go_num, HE.out.trans x5, HNx.out⟩
          case measure => simp [intOf]; omega
        · have e1 : eqC x.pre x.lo x.hi y.pre y.lo y.hi = false := by
            unfold eqC
            rw [decide_eq_false_iff_not]
            rintro ⟨q1, q2, q3⟩
            exact hxy (by cases x; cases y; simp_all)
          have HNe := hid (HNe.out hxy)
          clear HNx hxy
          go_wp2_with fail
          refine wp_region_any_order (by kernel_rfl) (by kernel_rfl) (by kernel_rfl) ?_
          repeat (first
            | (refine AWq.val rfl rfl rfl rfl (fun K hK => ?_); go_big_quiet_op; refine hK _ ?_; clear hK K)
            | (refine AWq.skip rfl rfl rfl ?_; simp only [Act.put, List.setIfInBounds_toArray, List.set_cons_succ, List.set_cons_zero]))
          refine AWq.done rfl rfl rfl (fun w5 x5 => ?_)
          simp only [closeAny, Act.put, List.setIfInBounds_toArray, List.set_cons_succ, List.set_cons_zero]
          go_wp2_with fail
          go_ret
          exact ⟨by rw [HNe.out]; rfl, HE.out.trans x5⟩
      · obtain rfl : k = a.length := by omega
        have hr : Hid (r = true) := HR.out.2 (by have := ht.out; rw [List.take_length] at this; rw [hlen, List.take_length] at this; exact this)
        clear hE h3 k3 ht HR
        go_wp2_with fail
        go_ret
        exact ⟨by rw [hr.out]; rfl, HE.out⟩
  · have dl : ((a.length : Int) != b.length) = true := by simp; omega
    have hr : Hid (r = false) := HR.out.1 (fun e => hlen (by rw [e]))
    clear h3 k3 HR
    go_enter Tryz.func16, Tryz.ntmps16
    go_wp2_with fail
    go_ret
    exact ⟨by rw [hr.out]; rfl, Ext.refl _⟩
set_option maxRecDepth 100000 in
set_option maxHeartbeats 4000000 in
theorem fequal_c (w : World) (u v : Value) (a b : List ClauseI) (hu : Sl w 3 u (a.map ClauseI.cells)) (hv : Sl w 3 v (b.map ClauseI.cells)) : Calls Tryz.prog 77 #[u, v] w (Ret (.bool (decide (a = b))) w) := by
  obtain ⟨A, c, rfl, h1, h2, h3⟩ := sl_get hu
  obtain ⟨B, d, rfl, k1, k2, k3⟩ := sl_get hv
  have HR : Hid ((a ≠ b → decide (a = b) = false) ∧ (a = b → decide (a = b) = true)) := ⟨fun h => decide_eq_false h, fun h => decide_eq_true h⟩
  generalize decide (a = b) = r at HR ⊢
  clear hu hv
  unfold maxLen at h2 k2
  obtain ⟨N, hN⟩ : ∃ N : Nat, min a.length b.length = N := ⟨_, rfl⟩
  have eN : min (a.length : Int) b.length = (N : Int) := by omega
  go_enter Tryz.func77, Tryz.ntmps77
  go_wp2_with fail
  go_loopw [11] (fun i wr => ∃ k : Nat, k ≤ N ∧ i = .int .i64 k ∧ Ext w wr ∧ Hid (a.take k = b.take k)) (fun i _ => N - (intOf i).toNat)
  case atStart => exact ⟨0, by omega, rfl, Ext.refl _, rfl⟩
  case round =>
    obtain ⟨k, hk, rfl, hE, ht⟩ := hrel
    have HE := hid hE
    by_cases hkn : k < N
    · have hka : k < a.length := by omega
      have hkb : k < b.length := by omega
      obtain ⟨b1, o1, rfl, lb1, hcell1⟩ := h3 (by omega)
      obtain ⟨b2, o2, rfl, lb2, hcell2⟩ := k3 (by omega)
      have c0 := hE.cell (hcell1 k hka 0 _ rfl)
      have c1 := hE.cell (hcell1 k hka 1 _ rfl)
      have c2 := hE.cell (hcell1 k hka 2 _ rfl)
      have d0 := hE.cell (hcell2 k hkb 0 _ rfl)
      have d1 := hE.cell (hcell2 k hkb 1 _ rfl)
      have d2 := hE.cell (hcell2 k hkb 2 _ rfl)
      rw [Nat.add_zero] at c0 d0
      have lr1 := Nat.lt_of_lt_of_le lb1 hE.size
      have lr2 := Nat.lt_of_lt_of_le lb2 hE.size
      have HNe : Hid (a[k] ≠ b[k] → r = false) := fun h => HR.out.1 (fun e => h (by subst e; rfl))
      have HNx : Hid (a[k] = b[k] → a.take (k + 1) = b.take (k + 1)) := fun h => by
        rw [List.take_succ_eq_append_getElem hka, List.take_succ_eq_append_getElem hkb, ht.out, h]
      clear hcell1 hcell2 h3 k3 hE ht HR
      generalize a[k] = x at c0 c1 c2 HNe HNx
      generalize b[k] = y at d0 d1 d2 HNe HNx
      by_cases hxy : x = y
      · have e1 : eqC x.pre x.lo x.hi y.pre y.lo y.hi = true := by subst hxy; simp [eqC]
        have HNx := hid (HNx.out hxy)
        clear HNe hxy
        go_wp2_with fail
        refine wp_region_any_order (by kernel_rfl) (by kernel_rfl) (by kernel_rfl) ?_
        repeat (first
          | (refine AWq.val rfl rfl rfl rfl (fun K hK => ?_); go_big_quiet_op; refine hK _ ?_; clear hK K)
          | (refine AWq.skip rfl rfl rfl ?_; simp only [Act.put, List.setIfInBounds_toArray, List.set_cons_succ, List.set_cons_zero]))
        refine AWq.done rfl rfl rfl (fun w5 x5 => ?_)
        simp only [closeAny, Act.put, List.setIfInBounds_toArray, List.set_cons_succ, List.set_cons_zero]
        go_wp2_with fail
        go_roundw
        case rel => exact ⟨k + 1, by omega, by go_num, HE.out.trans x5, HNx.out⟩
        case measure => simp [intOf]; omega
      · have e1 : eqC x.pre x.lo x.hi y.pre y.lo y.hi = false := by
          unfold eqC
          rw [decide_eq_false_iff_not]
          rintro ⟨q1, q2, q3⟩
          exact hxy (by cases x; cases y; simp_all)
        have HNe := hid (HNe.out hxy)
        clear HNx hxy
        go_wp2_with fail
        refine wp_region_any_order (by kernel_rfl) (by kernel_rfl) (by kernel_rfl) ?_
        repeat (first
          | (refine AWq.val rfl rfl rfl rfl (fun K hK => ?_); go_big_quiet_op; refine hK _ ?_; clear hK K)
          | (refine AWq.skip rfl rfl rfl ?_; simp only [Act.put, List.setIfInBounds_toArray, List.set_cons_succ, List.set_cons_zero]))
        refine AWq.done rfl rfl rfl (fun w5 x5 => ?_)
        simp only [closeAny, Act.put, List.setIfInBounds_toArray, List.set_cons_succ, List.set_cons_zero]
        go_wp2_with fail
        go_ret
        exact ⟨by rw [HNe.out]; rfl, HE.out.trans x5⟩
    · obtain rfl : k = N := by omega
      by_cases hlen : a.length = b.length
      · have dl : ((a.length : Int) == b.length) = true := by simp [hlen]
        have hr : Hid (r = true) := HR.out.2 (by
          have := ht.out
          rw [← hN, hlen, Nat.min_self, List.take_length, ← hlen, List.take_length] at this
          exact this)
        clear hE h3 k3 ht HR hlen
        go_wp2_with fail
        go_ret
        exact ⟨by rw [hr.out]; rfl, HE.out⟩
      · have dl : ((a.length : Int) == b.length) = false := by simp; omega
        have hr : Hid (r = false) := HR.out.1 (fun e => hlen (by rw [e]))
        clear hE h3 k3 ht HR hlen
        go_wp2_with fail
        go_ret
        exact ⟨by rw [hr.out]; rfl, HE.out⟩
set_option maxHeartbeats 1000000 in
theorem fsame_c (w : World) (u v : Value) (a b : List ClauseI) (hu : Sl w 3 u (a.map ClauseI.cells)) (hv : Sl w 3 v (b.map ClauseI.cells)) (ha : a.length ≤ 5000) (hb : b.length ≤ 5000) (la : LightF a) (lb : LightF b) : Calls Tryz.prog 64 #[u, v] w (Ret (.bool (decide (normF a = normF b))) w) := by
  have HNa := hid (fnorm_c w u a hu ha la)
  have HNb := fun W (hW : Ext w W) => hid (fnorm_c W v b (hv.ext hW) hb lb)
  obtain ⟨A, c, rfl, _⟩ := sl_get hu
  obtain ⟨B, d, rfl, _⟩ := sl_get hv
  have HEq := fun W x y hx hy => hid (fequal_c W x y (normF a) (normF b) hx hy)
  generalize decide (normF a = normF b) = r at HEq ⊢
  generalize normF a = na at HNa HEq
  generalize normF b = nb at HNb HEq
  clear hu hv
  go_enter Tryz.func64, Tryz.ntmps64
  go_wp2_with (first
    | (go_at_call 77; refine ((HEq _ _ _ HV1.out.1 HV2.out.1).out).mono ?_; rintro e w3 ⟨rfl, hx3⟩; have HX3 := hid (HX2.out.trans hx3); clear hx3)
    | (go_at_call 78; have hx0 := HX1.out; clear hx0; refine ((HNb _ HX1.out).out).mono ?_; rintro e w2 ⟨v2, rfl, hv2, hx2⟩; have HV2 := hid hv2; have HV1' := hid (HV1.out.ext hx2); clear HV1; have HV1 := HV1'; clear HV1'; have HX2 := hid (HX1.out.trans hx2); clear hv2 hx2)
    | (go_at_call 78; refine ((HNa).out).mono ?_; rintro e w1 ⟨v1, rfl, hv1, hx1⟩; have HV1 := hid hv1; have HX1 := hid hx1; clear hv1 hx1))
  go_ret
  exact ⟨rfl, HX3.out⟩
end Go.Proofs.YtjnjamhohnnefaaGreatDoor
