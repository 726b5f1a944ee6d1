/-
  tally.gather.
-/
import Derived.Test.YtefgjkaoidifbaaTaA
namespace Go.Proofs.Ytefgjkaoidifbaa
set_option linter.unusedSimpArgs false
set_option linter.unusedVariables false
open Go.RowKit Go.Sort Go.Maps

theorem sameKI (a b : Int) : (KI a).sameKey (KI b) = decide (a = b) := by
  by_cases h : a = b
  · subst h; simp [Lit.sameKey]
  · rw [sameKey_ne (KI_ne h)]; simp [h]
theorem ranges_keep {S : Nat → Prop} {w w' : World} {P : Program} {k : TypeId} {R : Value → Option (DataW Value × List MemPlace)} {b r n : Nat} {D : DataW Value} {left : Lit → Bool} {cnt : Nat} (h : w.ranges P k R b r n D left cnt) (he : Keep S w w') (hb : ¬ S b) (hr : ¬ S r) : w'.ranges P k R b r n D left cnt := by
  obtain ⟨es, clock, since, seen, c0, h1, h2, h3, h4, h5, h6⟩ := h
  have l1 : b < w.heap.size := (Array.getElem?_eq_some_iff.1 h1).1
  have l2 : r < w.heap.size := (Array.getElem?_eq_some_iff.1 h5).1
  exact ⟨es, clock, since, seen, c0, (he.block b l1 hb).trans h1, h2, h3, h4, (he.block r l2 hr).trans h5, h6⟩
theorem ranges_lt {w : World} {P : Program} {k : TypeId} {R : Value → Option (DataW Value × List MemPlace)} {b r n : Nat} {D : DataW Value} {left : Lit → Bool} {cnt : Nat} (h : w.ranges P k R b r n D left cnt) : b < w.heap.size ∧ r < w.heap.size := by
  obtain ⟨es, clock, since, seen, c0, h1, h2, h3, h4, h5, h6⟩ := h
  exact ⟨(Array.getElem?_eq_some_iff.1 h1).1, (Array.getElem?_eq_some_iff.1 h5).1⟩
theorem ownsMap_size {w : World} {P : Program} {k : TypeId} {R : Value → Option (DataW Value × List MemPlace)} {b n : Nat} {D : DataW Value} (h : w.ownsMap P k R b n D) : Maps.size D ≤ n := by
  obtain ⟨es, clock, h1, h2, h3, rfl⟩ := h
  rw [size_eq, length_sorted]
  simpa using h3
theorem ownsMap_keep {S : Nat → Prop} {w w' : World} {P : Program} {k : TypeId} {R : Value → Option (DataW Value × List MemPlace)} {b n : Nat} {D : DataW Value} (h : w.ownsMap P k R b n D) (he : Keep S w w') (hb : ¬ S b) : w'.ownsMap P k R b n D := by
  obtain ⟨es, clock, h1, r⟩ := h
  exact ⟨es, clock, (he.block b (Array.getElem?_eq_some_iff.1 h1).1 hb).trans h1, r⟩

/-- What has come of the map, and what is still to come. -/
structure Coll (l : List Cnt) (D : DataW Value) (left : Lit → Bool) (cnt : Nat) (acc : List Cnt) : Prop where
  sub : ∀ kl, left kl = true → Maps.has D kl = true
  mem : ∀ c, c ∈ acc ↔ pres l c.kind ∧ c = tot l c.kind ∧ left (KI c.kind) = false
  apart : acc.Pairwise fun a b => a.kind ≠ b.kind
  len : acc.length + cnt ≤ l.length
theorem Coll.start {l : List Cnt} {D : DataW Value} (hD : MapIs D l) {cnt : Nat} (hc : cnt ≤ l.length) : Coll l D (Maps.has D) cnt [] := by
  refine ⟨fun kl h => h, fun c => ?_, List.Pairwise.nil, by simpa using hc⟩
  constructor
  · intro h; cases h
  · rintro ⟨h1, _, h3⟩
    rw [(hD.has _).2 h1] at h3
    cases h3
theorem Coll.step {l : List Cnt} {D : DataW Value} (hD : MapIs D l) {left : Lit → Bool} {cnt cnt' : Nat} {acc : List Cnt} (h : Coll l D left cnt acc) {x : Int} (hl : left (KI x) = true) {c : Cnt} (hc : ∀ zd, D.atKey (KI x) zd = .held c.val) (hlt : cnt' < cnt) :
    Coll l D (fun z => left z && !z.sameKey (KI x)) cnt' (acc ++ [c]) := by
  have hp : pres l x := (hD.has x).1 (h.sub _ hl)
  have e := hD.at_ x hp .nil
  rw [hc .nil] at e
  injection e with e
  obtain rfl := Cnt.val_inj e
  have hk := tot_kind l x
  refine ⟨fun kl hkl => ?_, fun c => ?_, List.pairwise_append.2 ⟨h.apart, List.pairwise_singleton _ _, fun a ha b hb => ?_⟩, ?_⟩
  · simp only [Bool.and_eq_true] at hkl
    exact h.sub kl hkl.1
  · rw [List.mem_append, List.mem_singleton, h.mem]
    simp only [Bool.and_eq_false_iff, Bool.not_eq_false', sameKI, decide_eq_true_eq]
    constructor
    · rintro (⟨h1, h2, h3⟩ | rfl)
      · exact ⟨h1, h2, .inl h3⟩
      · rw [hk]; exact ⟨hp, rfl, .inr rfl⟩
    · rintro ⟨h1, h2, h3 | h3⟩
      · exact .inl ⟨h1, h2, h3⟩
      · rw [h3] at h2; exact .inr h2
  · rw [List.mem_singleton.1 hb, hk]
    intro e
    have := ((h.mem a).1 ha).2.2
    rw [e, hl] at this
    cases this
  · have := h.len
    simp
    omega
theorem Coll.done {l : List Cnt} {D : DataW Value} {left : Lit → Bool} {cnt : Nat} {acc l' : List Cnt} (h : Coll l D left cnt acc) (hl : ∀ kl, left kl = false) (hp : l'.Perm acc) (hs : l'.Pairwise fun x y => ¬ y.kind < x.kind) : l' = gat l := by
  refine gat_is ⟨?_, fun c => by rw [hp.mem_iff, h.mem]; simp [hl]⟩
  have h1 : l'.Pairwise fun a b => a.kind ≠ b.kind := (hp.pairwise_iff (fun h e => h e.symm)).2 h.apart
  exact (hs.and h1).imp fun ⟨a, b⟩ => by omega

set_option maxRecDepth 100000 in
set_option maxHeartbeats 4000000 in
theorem gather_c (w : World) (v : Value) (l : List Cnt) (h : Sl w 4 v (l.map Cnt.cells)) (hl : l.length ≤ 900) (hb : ∀ x ∈ l, Bd 1100000000000 x ∧ okK x.kind) : Calls Try.prog 71 #[v] w (RetQ (RowAt Cnt.cells 4 (gat l)) w) := by
  obtain ⟨A, c, rfl, h1, h2, h3⟩ := sl_get h
  unfold maxLen at h2
  have HT : Hid (∀ k, k ≤ l.length → ∀ i, Bd 1000000000000000 (tot (l.take k) i)) := fun k hk i => by
    have := tot_bd (B := 1100000000000) (l := l.take k) (by omega) (fun x hx => (hb x (List.mem_of_mem_take hx)).1) i
    have hkl : ((l.take k).length : Int) ≤ 900 := by rw [List.length_take]; omega
    unfold Bd at *
    omega
  have HBd := hid hb
  clear h hb
  have hmm := @run_makeMap Try.prog
  go_enter Try.func71, Try.ntmps71
  go_wp2_with fail
  have hE0 := (Ext.alloc w (.map #[] 0)).alloc' (.cells #[.map (some w.heap.size)] 92)
  have hM0 : ((w.alloc (.map #[] 0)).alloc (.cells #[.map (some w.heap.size)] 92)).ownsMap Try.prog 3 RC w.heap.size 0 (.map []) := (World.ownsMap_made w Try.prog 3 RC).alloc _
  have hQ0 := Blk.new (w.alloc (.map #[] 0)) 92 #[.map (some w.heap.size)]
  rw [show (w.alloc (.map #[] 0)).heap.size = w.heap.size + 1 by simp] at hQ0
  obtain ⟨b, hbb⟩ : ∃ b, b = w.heap.size := ⟨_, rfl⟩
  obtain ⟨q, hqq⟩ : ∃ q, q = w.heap.size + 1 := ⟨_, rfl⟩
  rw [← hqq] at hQ0
  rw [← hbb] at hQ0 hM0 hE0
  rw [← hqq, ← hbb]
  have n1 : q ≠ b := by omega
  have n2 : w.heap.size ≤ b := by omega
  have n3 : w.heap.size ≤ q := by omega
  generalize (w.alloc (.map #[] 0)).alloc (.cells #[.map (some b)] 92) = w0 at hE0 hM0 hQ0 ⊢
  clear hbb hqq hmm
  go_loopw [14] (fun i wr => ∃ k : Nat, k ≤ l.length ∧ i = .int .i64 k ∧ Ext w wr ∧ Blk wr q 92 #[.map (some b)] ∧ ∃ D : DataW Value, wr.ownsMap Try.prog 3 RC b k D ∧ MapIs D (l.take k)) (fun i _ => l.length - (intOf i).toNat)
  case atStart => exact ⟨0, by omega, rfl, hE0, hQ0, _, hM0, MapIs.nil⟩
  case round =>
    obtain ⟨k, hk, rfl, hE, hQ, D, hM, hD⟩ := hrel
    clear hE0 hM0 hQ0
    have HE := hid hE
    by_cases hlt : k < l.length
    · obtain ⟨b', o, rfl, lb, hcell⟩ := h3 (by omega)
      have c0 := hE.cell (hcell k hlt 0 _ rfl)
      have c1 := hE.cell (hcell k hlt 1 _ rfl)
      have c2 := hE.cell (hcell k hlt 2 _ rfl)
      have c3 := hE.cell (hcell k hlt 3 _ rfl)
      rw [Nat.add_zero] at c0
      have lbr := Nat.lt_of_lt_of_le lb hE.size
      obtain ⟨g1, g2⟩ := HBd.out _ (List.getElem_mem hlt)
      have HA := fun W (hW : Ext wr W) => hid (add_c W q b k D (l.take k) l[k] (hQ.ext hW) (ownsMap_ext hM hW) hD (by omega) g2 (by unfold Bd at *; omega) (HT.out k hk _))
      rw [← List.take_succ_eq_append_getElem hlt] at HA
      have HQ := hid hQ
      clear hE hcell h3 hQ hM hD g1 g2
      generalize l[k] = z at c0 c1 c2 c3 HA
      unfold Cnt.val at HA
      go_wp2_with fail
      refine (HA _ (Ext.alloc _ _)).out.mono ?_
      rintro e w' ⟨rfl, hK, D', hM', hD'⟩
      have HK := hid hK
      have HM' := hid hM'
      have HD' := hid hD'
      clear hK hM' hD'
      go_wp2_with fail
      go_roundw
      case rel => exact ⟨k + 1, by omega, by go_num, HK.out.toExt (HE.out.alloc' _) (fun _ e => by rw [e]; exact n2), (HQ.out.alloc _).keep HK.out n1, D', HM'.out, HD'.out⟩
      case measure => simp [intOf]; omega
    · obtain rfl : k = l.length := by omega
      rw [List.take_length] at hD
      have hsz := ownsMap_size hM
      have q0 := hQ.cell (i := 0) (v := .map (some b)) rfl
      have lq := hQ.lt
      have HD := hid hD
      clear hE h3 hQ hD
      go_wp2_with (at_range; refine wpList_range_own _ rfl _ 92 rfl 3 58 kLaw Try.underlying92 RC b l.length D rfl hM ?_; intro w2 hrg hg2 hs2)
      go_frame
      have hE2 : Ext w w2 := HE.out.trans ⟨hg2.os, hg2.tape, hg2.output, hg2.size, fun i hi => hg2.block i hi (by simp)⟩
      obtain ⟨r, hr⟩ : ∃ r, r = wr.heap.size := ⟨_, rfl⟩
      rw [← hr] at hrg hs2 ⊢
      have n4 : w.heap.size ≤ r := by have := HE.out.size; omega
      have n5 : r < w2.heap.size := by omega
      have n6 : b < w2.heap.size := (ranges_lt hrg).1
      have HRg := hid hrg
      have HE2 := hid hE2
      clear hM q0 lq hg2 hs2 hr hrg hE2 n3
      go_loopw [7] (fun v wi => ∃ (left : Lit → Bool) (cnt : Nat) (acc : List Cnt), wi.ranges Try.prog 3 RC b r l.length D left cnt ∧ Ext w wi ∧ w2.heap.size ≤ wi.heap.size ∧ Coll l D left cnt acc ∧ (acc.length = 0 → v = .slice none 0 0) ∧ wi.ownsRow w2.heap.size 58 4 v acc.length (acc.map Cnt.cells).flatten) (fun _ wi => wi.rangeLeft b r)
      case atStart => exact ⟨_, _, [], HRg.out, HE2.out, Nat.le_refl _, Coll.start HD.out hsz, (fun _ => rfl), ownsRow_nil _ _ _ _⟩
      case round =>
        obtain ⟨left, cnt, acc, hrg, hEi, hsi, hC, hz, hO⟩ := hrel
        have HC := hid hC
        have HZ := hid hz
        have HO := hid hO
        have HEi := hid hEi
        have HRg2 := hid hrg
        clear hC hz hO hEi HRg HE
        go_wp2_with (at_next; refine wpList_next_ranges _ rfl _ rfl 3 kLaw RC (Value.int .i64) Cnt.val (fun key kl hkey => by obtain ⟨x, rfl, _⟩ := Maps.keyOf_int_inv Try.underlying3 hkey; exact ⟨x, rfl⟩) (fun v y hv => by obtain ⟨c, rfl, _⟩ := RC_inv hv; exact ⟨c, rfl⟩) b r l.length D left cnt rfl hrg ?_ ?_)
        · intro _ hl0
          have hlen := HC.out.len
          have HL0 := hid hl0
          clear hl0 hrg
          go_wp2_with (go_at_call 84; refine (sortCnt_c HO.out (by omega)).mono ?_; rintro e w4 ⟨rfl, k4, m, hp, hs, ho4⟩; have K4 := hid k4; have P4 := hid hp; have S4 := hid hs; have HO4 := hid ho4; clear k4 hp hs ho4)
          go_ret
          have hm : m = gat l := HC.out.done HL0.out P4.out (S4.out.imp fun h => by rw [cmpC_lt] at h; simp at h; omega)
          have hO4 := HO4.out
          rw [hm] at hO4
          refine ⟨_, rfl, RowAt.of_row cnt_coded hO4 (fun h0 => HZ.out ?_), K4.out.toExt HEi.out (fun q hq => by have := (row_block HO.out q hq).1; have := HE2.out.size; omega)⟩
          have := P4.out.length_eq
          rw [hm] at this
          omega
        · intro x c kl yd yp w3 cnt3 hkey hlx hRy hat hrg3 hlt3 hg3 hs3 hen
          obtain ⟨x', ex, rfl, hwx⟩ := Maps.keyOf_int_inv Try.underlying3 hkey
          cases ex
          rw [RC_val] at hRy
          injection hRy with hRy
          injection hRy with hRy _
          subst hRy
          have HC3 := hid (HC.out.step HD.out hlx hat hlt3)
          have hK3 := Keep.of_grown hg3
          have HE3 := hid (hK3.toExt HEi.out (fun _ e => by rw [e]; exact n4))
          have HO3 := hid (ownsRow_keep HO.out hK3 (fun z hz => by have := (row_block HO.out z hz).1; omega))
          have hlen : acc.length ≤ 1000000 := by have := HC.out.len; omega
          have HRg3 := hid hrg3
          have hsi3 : w2.heap.size ≤ w3.heap.size := by omega
          have hE5 := Ext.alloc w3 (.cells #[.int .i64 c.kind, .int .i64 c.acts, .int .i64 c.errs, .int .i64 c.made] 58)
          obtain ⟨v', w4, hrun, ho4, hk4, _⟩ := app_one (P := Try.prog) cnt_elem cnt_coded (ownsRow_ext HO3.out hE5) (Nat.le_trans hsi3 hE5.size) c hlen (by omega)
          simp only [Cnt.cells] at hrun
          rw [show (w3.alloc (.cells #[.int .i64 c.kind, .int .i64 c.acts, .int .i64 c.errs, .int .i64 c.made] 58)).heap.size = w3.heap.size + 1 by simp] at hrun
          have HO4 := hid ho4
          have hkk := (Keep.of_ext hE5).trans hk4
          have HRg4 := hid (ranges_keep hrg3 hkk (fun h => by have := (row_block HO3.out b h).1; omega) (fun h => by have := (row_block HO3.out r h).1; omega))
          have HE4 := hid (hk4.toExt (HE3.out.trans hE5) (fun z hz => by have := (row_block HO3.out z hz).1; have := HE2.out.size; omega))
          have hsi4 := Nat.le_trans hsi3 hkk.size
          have HMe : Hid (w4.rangeLeft b r < wr.rangeLeft b r) := by
            unfold Hid
            rw [HRg4.out.left_eq, HRg2.out.left_eq]
            exact hlt3
          unfold Cnt.val at hen ⊢
          clear hkey hlx hat hrg3 hg3 hs3 hrg hK3 hE5 ho4 hk4 hkk hlt3
          go_wp2_with (at_builtin; refine wpList_app rfl (.tmp 28) (.tmp 30) _ _ rfl rfl rfl hrun ?_)
          go_roundw
          case rel => exact ⟨_, _, _, HRg4.out, HE4.out, hsi4, HC3.out, (fun h => by simp at h), HO4.out⟩
          case measure => exact HMe.out
end Go.Proofs.Ytefgjkaoidifbaa
