/-
  diff.Play.
-/
import Derived.Test.YtgkdiknmjgpgmaaPlE
namespace Go.Proofs.Ytgkdiknmjgpgmaa
set_option linter.unusedSimpArgs false
set_option linter.unusedVariables false
open Go.RowKit Go.Maps

theorem ownsMap_size {w : World} {P : Program} {k : TypeId} {R : Value → Option (DataW Value × List MemPlace)} {b n : Nat} {D : DataW Value} (h : w.ownsMap P k R b n D) : Maps.size D ≤ n := by
  obtain ⟨es, clock, h1, h2, h3, rfl⟩ := h
  rw [size_eq, length_sorted]
  simpa using h3
theorem Keep.far {S T : Nat → Prop} {a b c : World} (h : Keep S a b) (k : Keep T b c) (hs : ∀ q, T q → a.heap.size ≤ q) : Keep S a c :=
  ⟨k.os.trans h.os, k.tape.trans h.tape, k.output.trans h.output, Nat.le_trans h.size k.size, fun q hq hn => (k.block q (Nat.lt_of_lt_of_le hq h.size) (fun ht => absurd (hs q ht) (by omega))).trans (h.block q hq hn)⟩
theorem sortS_sl {w : World} {B : Nat} {v : Value} {l : List ByteArray} (h : w.ownsRow B 9 1 v l.length (l.map strC).flatten) (hl : l.length ≤ 1000000) :
    Calls Try.prog 56 #[v] w fun en w' => en = .returned (.tuple #[]) ∧ Keep (fun q => v.ownBlock = some q) w w' ∧ ∃ S : List ByteArray, S.Perm l ∧ S.Pairwise (fun x y => blt y x = false) ∧ ∃ A c, v = .slice A S.length c ∧ S.length ≤ c ∧ c ≤ 2 ^ 63 - 1 ∧ (0 < S.length → ∃ b o, A = some ⟨b, o, none⟩ ∧ b < w'.heap.size ∧ ∀ k x, S[k]? = some x → w'.cell? ⟨b, o + k, none⟩ = some (.string x)) :=
  (sortS_c h hl).mono fun e w' ⟨he, hk, S, hp, hs, ho⟩ => by
    obtain ⟨A, c, h0, h1, h2, h3⟩ := sl_get (sl_of_row (e := 9) (base := B) (str_coded.sizes S) (by rw [List.length_map]; exact ho))
    refine ⟨he, hk, S, hp, hs, A, c, h0, h1, h2, fun hn => ?_⟩
    obtain ⟨b, o, e1, e2, e3⟩ := h3 hn
    refine ⟨b, o, e1, e2, fun k x hx => ?_⟩
    obtain ⟨hk', rfl⟩ := List.getElem?_eq_some_iff.1 hx
    have := e3 k hk' 0 _ rfl
    simpa using this
set_option maxRecDepth 100000 in
set_option maxHeartbeats 4000000 in
theorem play_c (w : World) (u v : Value) (a : List LeafI) (l : List TurnI) (hu : Sl w 5 u (a.map LeafI.cells)) (hv : Sl w 4 v (l.map TurnI.cells)) (ha : a.length ≤ 1000) (hl : l.length ≤ 1000) (hsa : ∀ x ∈ a, Slight x) (hst : ∀ t ∈ l, ShortT t) :
    Calls Try.prog 26 #[u, v] w (RetQ (fun v' w' => ∃ S : List ByteArray, S.Pairwise (fun x y => blt x y = true) ∧ (∀ n, n ∈ S ↔ (playM a l n).isSome = true) ∧ RowAt strC 1 (S.map fun n => oneS n (getM (playM a l) n)) v' w') w) := by
  obtain ⟨A, c, rfl, h1, h2, h3⟩ := sl_get hu
  have HVV := hid hv
  obtain ⟨A', c', rfl, j1, j2, j3⟩ := sl_get hv
  have HVB : Hid (0 < l.length → ∀ b' o n c, Value.slice A' l.length c' = .slice (some ⟨b', o, none⟩) n c → b' < w.heap.size) := fun hp b' o n c e => by
    obtain ⟨b, o', e2, hlt, _⟩ := j3 hp
    rw [e2] at e
    injection e with e
    injection e with e
    injection e with e
    subst e; exact hlt
  unfold maxLen at j2
  clear j3
  have HSA := hid hsa
  have HST := hid hst
  unfold maxLen at h2
  have hmm := @run_makeMap Try.prog
  clear hu hv hsa hst
  go_enter Try.func26, Try.ntmps26
  go_wp2_with fail
  clear hmm
  obtain ⟨q3, hq3⟩ : ∃ q, q = w.heap.size := ⟨_, rfl⟩
  obtain ⟨b1, hb1⟩ : ∃ q, q = w.heap.size + 1 := ⟨_, rfl⟩
  obtain ⟨b2, hb2⟩ : ∃ q, q = w.heap.size + 1 + 1 := ⟨_, rfl⟩
  obtain ⟨q5, hq5⟩ : ∃ q, q = w.heap.size + 1 + 1 + 1 := ⟨_, rfl⟩
  obtain ⟨q6, hq6⟩ : ∃ q, q = w.heap.size + 1 + 1 + 1 + 1 := ⟨_, rfl⟩
  have hE : Ext w (((((w.alloc (.cells #[.slice A' l.length c'] 49)).alloc (.map #[] 0)).alloc (.map #[] 0)).alloc (.cells #[.map (some (w.heap.size + 1))] 72)).alloc (.cells #[.map (some (w.heap.size + 1 + 1))] 72)) := ((((Ext.alloc _ _).alloc' _).alloc' _).alloc' _).alloc' _
  have x2 : Ext ((w.alloc (.cells #[.slice A' l.length c'] 49)).alloc (.map #[] 0)) (((((w.alloc (.cells #[.slice A' l.length c'] 49)).alloc (.map #[] 0)).alloc (.map #[] 0)).alloc (.cells #[.map (some (w.heap.size + 1))] 72)).alloc (.cells #[.map (some (w.heap.size + 1 + 1))] 72)) := ((Ext.alloc _ _).alloc' _).alloc' _
  have x3 : Ext (((w.alloc (.cells #[.slice A' l.length c'] 49)).alloc (.map #[] 0)).alloc (.map #[] 0)) (((((w.alloc (.cells #[.slice A' l.length c'] 49)).alloc (.map #[] 0)).alloc (.map #[] 0)).alloc (.cells #[.map (some (w.heap.size + 1))] 72)).alloc (.cells #[.map (some (w.heap.size + 1 + 1))] 72)) := (Ext.alloc _ _).alloc' _
  have k3 : Blk (((((w.alloc (.cells #[.slice A' l.length c'] 49)).alloc (.map #[] 0)).alloc (.map #[] 0)).alloc (.cells #[.map (some (w.heap.size + 1))] 72)).alloc (.cells #[.map (some (w.heap.size + 1 + 1))] 72)) q3 49 #[.slice A' l.length c'] := by
    rw [hq3]; exact ((((Blk.new w _ _).alloc _).alloc _).alloc _).alloc _
  have k5 : Blk (((((w.alloc (.cells #[.slice A' l.length c'] 49)).alloc (.map #[] 0)).alloc (.map #[] 0)).alloc (.cells #[.map (some (w.heap.size + 1))] 72)).alloc (.cells #[.map (some (w.heap.size + 1 + 1))] 72)) q5 72 #[.map (some b1)] := by
    have := (Blk.new (((w.alloc (.cells #[.slice A' l.length c'] 49)).alloc (.map #[] 0)).alloc (.map #[] 0)) 72 #[.map (some (w.heap.size + 1))]).alloc (.cells #[.map (some (w.heap.size + 1 + 1))] 72)
    simp only [World.size_alloc] at this
    rw [hq5, hb1]; exact this
  have k6 : Blk (((((w.alloc (.cells #[.slice A' l.length c'] 49)).alloc (.map #[] 0)).alloc (.map #[] 0)).alloc (.cells #[.map (some (w.heap.size + 1))] 72)).alloc (.cells #[.map (some (w.heap.size + 1 + 1))] 72)) q6 72 #[.map (some b2)] := by
    have := Blk.new ((((w.alloc (.cells #[.slice A' l.length c'] 49)).alloc (.map #[] 0)).alloc (.map #[] 0)).alloc (.cells #[.map (some (w.heap.size + 1))] 72)) 72 #[.map (some (w.heap.size + 1 + 1))]
    simp only [World.size_alloc] at this
    rw [hq6, hb2]; exact this
  have o1 : (((((w.alloc (.cells #[.slice A' l.length c'] 49)).alloc (.map #[] 0)).alloc (.map #[] 0)).alloc (.cells #[.map (some (w.heap.size + 1))] 72)).alloc (.cells #[.map (some (w.heap.size + 1 + 1))] 72)).ownsMap Try.prog 9 RS b1 0 (.map []) := by
    have := ownsMap_ext (World.ownsMap_made (w.alloc (.cells #[.slice A' l.length c'] 49)) Try.prog 9 RS) x2
    simp only [World.size_alloc] at this
    rw [hb1]; exact this
  have o2 : (((((w.alloc (.cells #[.slice A' l.length c'] 49)).alloc (.map #[] 0)).alloc (.map #[] 0)).alloc (.cells #[.map (some (w.heap.size + 1))] 72)).alloc (.cells #[.map (some (w.heap.size + 1 + 1))] 72)).ownsMap Try.prog 9 RS b2 0 (.map []) := by
    have := ownsMap_ext (World.ownsMap_made ((w.alloc (.cells #[.slice A' l.length c'] 49)).alloc (.map #[] 0)) Try.prog 9 RS) x3
    simp only [World.size_alloc] at this
    rw [hb2]; exact this
  rw [← hq6, ← hq5, ← hb2, ← hb1, ← hq3]
  rw [← hb2, ← hb1] at hE k3 k5 k6 o1 o2
  generalize ((((w.alloc (.cells #[.slice A' l.length c'] 49)).alloc (.map #[] 0)).alloc (.map #[] 0)).alloc (.cells #[.map (some b1)] 72)).alloc (.cells #[.map (some b2)] 72) = W0 at hE k3 k5 k6 o1 o2 ⊢
  clear x2 x3
  have n1 : w.heap.size ≤ b1 := by omega
  have n2 : w.heap.size ≤ b2 := by omega
  have n12 : b1 ≠ b2 := by omega
  have n31 : ¬ (q3 = b1 ∨ q3 = b2) := by omega
  have n51 : ¬ (q5 = b1 ∨ q5 = b2) := by omega
  have n61 : ¬ (q6 = b1 ∨ q6 = b2) := by omega
  clear hq3 hb1 hb2 hq5 hq6
  have HE0 := hid hE
  have K3 := hid k3
  have K5 := hid k5
  have K6 := hid k6
  have O1 := hid o1
  have O2 := hid o2
  clear hE k3 k5 k6 o1 o2
  go_loopw [19] (fun i wr => ∃ (k : Nat) (D1 D2 : DataW Value), k ≤ a.length ∧ i = .int .i64 k ∧ Keep (fun q => q = b1 ∨ q = b2) W0 wr ∧ wr.ownsMap Try.prog 9 RS b1 k D1 ∧ SIs D1 (wasM (a.take k)) ∧ wr.ownsMap Try.prog 9 RS b2 k D2 ∧ SIs D2 (wasM (a.take k))) (fun i _ => a.length - (intOf i).toNat)
  case atStart => exact ⟨0, _, _, by omega, rfl, Keep.refl _ _, O1.out, SIs.nil, O2.out, SIs.nil⟩
  case round =>
    obtain ⟨k, D1, D2, hk, rfl, hK, ho1, hm1, ho2, hm2⟩ := hrel
    have hE := hK.toExt HE0.out (fun q hq => by rcases hq with e | e <;> (rw [e]; assumption))
    have HE := hid hE
    have HK := hid hK
    by_cases hlt : k < a.length
    · obtain ⟨b, o, rfl, lb, hcell⟩ := h3 (by omega)
      have c0 := hE.cell (hcell k hlt 0 _ rfl)
      have c1 := hE.cell (hcell k hlt 1 _ rfl)
      have c2 := hE.cell (hcell k hlt 2 _ rfl)
      have c3 := hE.cell (hcell k hlt 3 _ rfl)
      have c4 := hE.cell (hcell k hlt 4 _ rfl)
      rw [Nat.add_zero] at c0
      have lbr := Nat.lt_of_lt_of_le lb hE.size
      have hsx := HSA.out _ (List.getElem_mem hlt)
      unfold Slight at hsx
      have HW := hid (wasM_take a k hlt)
      have HM1 := hid hm1
      have HM2 := hid hm2
      have hB5 := K5.out.keep hK n51
      have hB6 := K6.out.keep hK n61
      clear hcell h3 hE hm1 hm2
      generalize a[k] = x at c0 c1 c2 c3 c4 hsx HW
      generalize wasM (a.take k) = m at HM1 HM2 HW
      go_wp2_with fail
      have e1 := Ext.alloc wr (.cells #[.string x.name, .string x.path, .int .i64 x.item.by_, .int .i64 x.item.n, .string x.d] 35)
      have hB := Blk.new wr 35 #[.string x.name, .string x.path, .int .i64 x.item.by_, .int .i64 x.item.n, .string x.d]
      obtain ⟨q, hq⟩ : ∃ q, q = wr.heap.size := ⟨_, rfl⟩
      rw [← hq] at hB ⊢
      have hqsz0 : wr.heap.size ≤ q := by omega
      clear hq c0 c1 c2 c3 c4 lbr
      generalize wr.alloc (.cells #[.string x.name, .string x.path, .int .i64 x.item.by_, .int .i64 x.item.n, .string x.d] 35) = w1 at e1 hB ⊢
      have p0 := hB.cell (i := 0) (v := .string x.name) rfl
      have p4 := hB.cell (i := 4) (v := .string x.d) rfl
      have lq := hB.lt
      have g5 := (hB5.ext e1).cell (i := 0) (v := .map (some b1)) rfl
      have g6 := (hB6.ext e1).cell (i := 0) (v := .map (some b2)) rfl
      have lg5 := (hB5.ext e1).lt
      have lg6 := (hB6.ext e1).lt
      have HE1 := hid e1
      have HBq := hid hB
      have HB6q := hid (hB6.ext e1)
      have HO1 := hid ho1
      have HO2 := hid ho2
      clear hB hB5 hB6 e1 ho1 ho2
      have hk0 := keyS (s := x.name) (by omega)
      have hv0 := valS (s := x.d) (by omega)
      have HP1 := hid (HM1.out.put (k := x.name) (v := x.d) (by omega) (by omega))
      have HP2 := hid (HM2.out.put (k := x.name) (v := x.d) (by omega) (by omega))
      obtain ⟨g1, hr1, hg1, hgk1⟩ : ∃ w3, (Instr.mapUpdate 72 (.map (some b1)) (.string x.name) (.string x.d)).run Try.prog w1.drew = .ok () w3 ∧ w3.ownsMap Try.prog 9 RS b1 (k + 1) (D1.put (KS x.name) (.lit (KS x.d))) ∧ Keep (fun q => q = b1) w1.drew w3 := by
        obtain ⟨w3, r1, r2, r3⟩ := (ownsMap_ext HO1.out (HE1.out.trans (Ext.drew w1))).update sLaw Try.underlying72 (by unfold maxLen; omega) hk0 hv0
        exact ⟨w3, r1, r2, Keep.of_grownR r3⟩
      obtain ⟨g2, hr2, hg2, hgk2⟩ : ∃ w4, (Instr.mapUpdate 72 (.map (some b2)) (.string x.name) (.string x.d)).run Try.prog g1 = .ok () w4 ∧ w4.ownsMap Try.prog 9 RS b2 (k + 1) (D2.put (KS x.name) (.lit (KS x.d))) ∧ Keep (fun q => q = b2) g1 w4 := by
        obtain ⟨w4, r1, r2, r3⟩ := (ownsMap_keep (ownsMap_ext HO2.out (HE1.out.trans (Ext.drew w1))) hgk1 (fun e => n12 e.symm)).update sLaw Try.underlying72 (by unfold maxLen; omega) hk0 hv0
        exact ⟨w4, r1, r2, Keep.of_grownR r3⟩
      have hqb : q ≠ b1 := by have := HO1.out.lt; omega
      have HB1 : Blk g1 q 35 #[.string x.name, .string x.path, .int .i64 x.item.by_, .int .i64 x.item.n, .string x.d] := Blk.keep (S := fun z => z = b1) (w := w1.drew) HBq.out hgk1 hqb
      have HB2 : Blk g1 q6 72 #[.map (some b2)] := Blk.keep (S := fun z => z = b1) (w := w1.drew) HB6q.out hgk1 (fun e => n61 (.inl e))
      have t0 : g1.cell? ⟨q, 0, none⟩ = some (.string x.name) := HB1.cell rfl
      have t4 : g1.cell? ⟨q, 4, none⟩ = some (.string x.d) := HB1.cell rfl
      have t6 : g1.cell? ⟨q6, 0, none⟩ = some (.map (some b2)) := HB2.cell rfl
      have lt1 : q < g1.heap.size := HB1.lt
      have lt2 : q6 < g1.heap.size := HB2.lt
      have HG1 := hid hg1
      have HGK1 := hid hgk1
      have HG2 := hid hg2
      have HGK2 := hid hgk2
      clear hk0 hv0 HB1 HB2 hg1 hgk1 hg2 hgk2
      go_region
      have hKe := (((HK.out.trans (Keep.of_ext (HE1.out.trans (Ext.drew w1)))).trans (HGK1.out.mono (fun _ h => .inl h))).trans (HGK2.out.mono (fun _ h => .inr h)))
      have HKe := hid hKe
      have HO1e := hid (ownsMap_keep HG1.out HGK2.out n12)
      clear hr1 hr2 t0 t4 t6 lt1 lt2 p0 p4 lq g5 g6 lg5 lg6 hKe hK hqb
      go_wp2_with fail
      go_roundw
      case rel => exact ⟨k + 1, _, _, by omega, by go_num, HKe.out, HO1e.out, (by rw [HW.out]; exact HP1.out), HG2.out, (by rw [HW.out]; exact HP2.out)⟩
      case measure => simp [intOf]; omega
    · obtain rfl : k = a.length := by omega
      rw [List.take_length] at hm1 hm2
      have hst : PSt w wr q3 q5 q6 b1 b2 (.slice A' l.length c') l a.length a.length D1 D2 (wasM a) (wasM a) := ⟨hE, K3.out.keep hK n31, K5.out.keep hK n51, K6.out.keep hK n61, ho1, hm1, ho2, hm2, by omega, by omega, by omega, n12, n2, HVV.out, HVB.out, hl, HST.out⟩
      have HP0 := hid hst
      clear hK ho1 hm1 ho2 hm2 hE hst h3 K3 K5 K6 O1 O2 HE0 HK HE
      go_wp2_with (first
        | (at_range; refine wpList_range_own _ rfl _ 72 rfl 9 9 sLaw Try.underlying72 RS b2 n4 D24 rfl HP4.out.o2 ?_; intro w2 hrg hg2 hs2)
        | (refine (HP3.out.last (by omega)).mono ?_; rintro e W4 ⟨rfl, D24, n4, hn4, hp4⟩; have HP4 := hid hp4; have lt6 := hp4.k6.lt; have x6 := hp4.k6.cell (i := 0) (v := .map (some b2)) rfl; clear hp4 HP3)
        | (refine (HP2.out.call4 (by omega)).mono ?_; rintro e W3 ⟨rfl, D23, hp3⟩; have HP3 := hid hp3; clear hp3 HP2)
        | (refine (HP1.out.call3 (by omega)).mono ?_; rintro e W2 ⟨rfl, D22, hp2⟩; have HP2 := hid hp2; clear hp2 HP1)
        | (refine (HP0.out.call2 (by omega)).mono ?_; rintro e W1 ⟨rfl, D21, hp1⟩; have HP1 := hid hp1; clear hp1 HP0))
      go_frame
      have hEr : Ext W4 w2 := ⟨hg2.os, hg2.tape, hg2.output, hg2.size, fun i hi => hg2.block i hi (by simp)⟩
      have HS4 := HP4.out.s2
      have hsz := ownsMap_size HP4.out.o2
      obtain ⟨r, hr⟩ : ∃ r, r = W4.heap.size := ⟨_, rfl⟩
      rw [← hr] at hrg hs2 ⊢
      have n4r : w.heap.size ≤ r := by have := HP4.out.e.size; omega
      have n5 : r < w2.heap.size := by omega
      have n6 : b2 < w2.heap.size := (ranges_lt hrg).1
      have HPr := hid (HP4.out.mono hEr)
      have hq6r : q6 ≠ r := by rw [hr]; exact Nat.ne_of_lt lt6
      have hb2r : b2 ≠ r := by rw [hr]; exact Nat.ne_of_lt HP4.out.o2.lt
      have HRg := hid hrg
      have HSM := hid HS4
      have HSz := hid hsz
      clear lt6 x6 hg2 hs2 hr hrg hEr HS4 hsz HP4
      obtain ⟨m, hmd⟩ : ∃ m, m = playM a l := ⟨_, rfl⟩
      rw [← hmd] at HPr HSM
      have HMd := hid hmd
      clear hmd
      go_loopw [10] (fun v wi => ∃ (left : Lit → Bool) (cnt : Nat) (acc : List ByteArray), wi.ranges Try.prog 9 RS b2 r n4 D24 left cnt ∧ Keep (fun q => q = r) w2 wi ∧ CollS D24 m left cnt n4 acc ∧ wi.ownsRow w2.heap.size 9 1 v acc.length (acc.map strC).flatten) (fun _ wi => wi.rangeLeft b2 r)
      case atStart => exact ⟨_, _, [], HRg.out, Keep.refl _ _, CollS.start HSM.out HSz.out, ownsRow_nil _ _ _ _⟩
      case round =>
        obtain ⟨left, cnt, acc, hrg, hKi, hC, hO⟩ := hrel
        have HC := hid hC
        have HO := hid hO
        have HKi := hid hKi
        have HRg2 := hid hrg
        clear hC hO hKi HRg
        go_wp2_with (at_next; refine wpList_next_ranges _ rfl _ rfl 9 sLaw RS Value.string Value.string (fun key kl hkey => by obtain ⟨s, rfl, _⟩ := WideMaps.string_of_keyOf Try.underlying9 hkey; exact ⟨s, rfl⟩) (fun v y hv => by obtain ⟨s, rfl, hs, _⟩ := plainElem_string_inv Try.underlying9 hv; exact ⟨s, rfl⟩) b2 r n4 D24 left cnt rfl hrg ?_ ?_)
        · intro _ hl0
          have hlen := HC.out.len
          have HL0 := hid hl0
          clear hl0 hrg
          go_wp2_with (go_at_call 56; refine (sortS_sl HO.out (by omega)).mono ?_; rintro e w4 ⟨rfl, k4, S, hp, hs, A3, c3, rfl, g1, g2, g3⟩; have K4 := hid k4; have P4 := hid hp; have S4 := hid hs; clear k4 hp hs)
          obtain ⟨hS1, hS2⟩ := HC.out.done HL0.out P4.out S4.out
          have hSl : S.length ≤ 5000 := by rw [P4.out.length_eq]; omega
          have K24 := HKi.out.far K4.out (fun q hq => (row_block HO.out q hq).1)
          have HM4 := hid (ownsMap_keep HPr.out.o2 K24 hb2r)
          have HQ4 := hid (HPr.out.k6.keep K24 hq6r)
          have HE4 := hid (K24.toExt HPr.out.e (fun q hq => by rw [hq]; exact n4r))
          have HS1 := hid hS1
          have HS2 := hid hS2
          clear hS1 hS2 K24 K4 S4 P4 HC HO HKi HRg2 HPr
          obtain ⟨F, hF⟩ : ∃ F : ByteArray → ByteArray, F = fun n => oneS n (getM m n) := ⟨_, rfl⟩
          go_loopw [12, 65] (fun v i wx => ∃ k : Nat, k ≤ S.length ∧ i = .int .i64 k ∧ Ext w4 wx ∧ (k = 0 → v = .slice none 0 0) ∧ wx.ownsRow w4.heap.size 9 1 v ((S.take k).map F).length (((S.take k).map F).map strC).flatten) (fun _ i _ => S.length - (intOf i).toNat)
          case atStart => exact ⟨0, by omega, rfl, Ext.refl _, (fun _ => rfl), ownsRow_nil _ _ _ _⟩
          case round =>
            obtain ⟨k, hk, rfl, hE, hz, hO⟩ := hrel
            have HE := hid hE
            have HO := hid hO
            have HZ := hid hz
            by_cases hlt : k < S.length
            · obtain ⟨b', o, rfl, lb, hcell⟩ := g3 (by omega)
              have hx := List.getElem?_eq_getElem hlt
              have c0 := hE.cell (hcell k _ hx)
              have lbr := Nat.lt_of_lt_of_le lb hE.size
              have HTk := hid (show (S.take (k + 1)).map F = (S.take k).map F ++ [F S[k]] by rw [List.take_succ_eq_append_getElem hlt, List.map_append]; rfl)
              have hln : ((S.take k).map F).length ≤ 5000 := by rw [List.length_map, List.length_take]; omega
              have hxm := (HS2.out _).1 (List.getElem_mem hlt)
              generalize S[k] = x at c0 HTk hxm
              obtain ⟨xv, hxv⟩ := Option.isSome_iff_exists.1 hxm
              have z1 := (HSM.out.sz x xv hxv).1
              have z2 := getM_size HSM.out x
              have hlook := HSM.out.look (ownsMap_ext HM4.out hE) z1
              have x6 := (HQ4.out.ext hE).cell (i := 0) (v := .map (some b2)) rfl
              have lt6 := (HQ4.out.ext hE).lt
              have HFx := hid (show F x = oneS x (getM m x) by rw [hF])
              clear hE hcell hx hz hO hxm hxv g3 hF
              generalize getM m x = gx at hlook z2 HFx
              generalize (S.take k).map F = acc at HO hln HTk
              go_wp2_with (first
                | (at_builtin; obtain ⟨v', w6, hrun6, ho6, hk6, _⟩ := app_one (P := Try.prog) str_elem str_coded (ownsRow_ext HO.out HX5.out) (Nat.le_trans HE.out.size HX5.out.size) (oneS x gx) (by omega) (by omega); simp only [strC] at hrun6; have HE6 := hid (hk6.toExt (HE.out.trans HX5.out) (fun q hq => (row_block HO.out q hq).1)); have HO6 := hid ho6; clear ho6 hk6; refine wpList_app rfl (.tmp 69) (.tmp 75) _ _ rfl rfl rfl hrun6 ?_)
                | (go_at_call 57; refine (one_c _ _ _ z1 z2).mono ?_; rintro e w5 ⟨rfl, hx5⟩; have HX5 := hid hx5; clear hx5))
              go_roundw
              case rel => exact ⟨k + 1, by omega, by go_num, HE6.out, (fun h => by omega), by rw [HTk.out, HFx.out]; exact HO6.out⟩
              case measure => simp [intOf]; omega
            · obtain rfl : k = S.length := by omega
              rw [List.take_length] at hO
              have hrow := RowAt.of_row str_coded hO (fun h0 => hz (by rwa [List.length_map] at h0))
              have HR := hid hrow
              have HFe := hid hF
              clear hE hz hO hrow HO HZ g3 hF
              go_wp2_with fail
              go_ret
              exact ⟨_, rfl, ⟨S, HS1.out, (by rw [← HMd.out]; exact HS2.out), by have := HR.out; rw [HFe.out] at this; rw [← HMd.out]; exact this⟩, HE4.out.trans HE.out⟩
        · intro x c kl yd yp w3 cnt3 hkey hlx hRy hat hrg3 hlt3 hg3 hs3 hen
          obtain ⟨x', ex, rfl, hwx⟩ := WideMaps.string_of_keyOf Try.underlying9 hkey
          cases ex
          have HC3 := hid (HC.out.step HSM.out hlx hlt3)
          have hK3 := Keep.of_grownR hg3
          have HK3 := hid (HKi.out.trans hK3)
          have hszi := HKi.out.size
          have HO3 := hid (ownsRow_keep HO.out hK3 (fun z hz => by have := (row_block HO.out z hz).1; omega))
          have hlen : acc.length ≤ 1000000 := by have := HC.out.len; omega
          have hsi3 : w2.heap.size ≤ w3.heap.size := by omega
          obtain ⟨v', w4, hrun, ho4, hk4, _⟩ := app_one (P := Try.prog) str_elem str_coded HO3.out hsi3 x hlen (by omega)
          simp only [strC] at hrun
          have HO4 := hid ho4
          have HRg4 := hid (ranges_keep hrg3 hk4 (fun h => by have := (row_block HO3.out b2 h).1; omega) (fun h => by have := (row_block HO3.out r h).1; omega))
          have HK4 := hid (HK3.out.far hk4 (fun z hz => (row_block HO3.out z hz).1))
          have HMe : Hid (w4.rangeLeft b2 r < wr.rangeLeft b2 r) := by
            unfold Hid
            rw [HRg4.out.left_eq, HRg2.out.left_eq]
            exact hlt3
          clear hkey hlx hat hrg3 hg3 hs3 hrg hK3 ho4 hk4 hlt3
          go_wp2_with (at_builtin; refine wpList_app rfl (.tmp 57) (.tmp 59) _ _ rfl rfl rfl hrun ?_)
          go_roundw
          case rel => exact ⟨_, _, _, HRg4.out, HK4.out, HC3.out, HO4.out⟩
          case measure => exact HMe.out
end Go.Proofs.Ytgkdiknmjgpgmaa
