/-
  Package sizes: rest, Minus, Covers, Same; lighteragelaw08.few, awake.
-/
import Derived.Test.YtgkdiknmjgpgmaaGreatDoorSyF
namespace Go.Proofs.YtgkdiknmjgpgmaaGreatDoor.Sz
open Go.RowKit

/-- What is between ranges. -/
def restL (next : Int) : List Rng → List Rng
  | [] => [⟨next, 200⟩]
  | r :: l => ⟨next, r.lo - 1⟩ :: restL (r.hi + 1) l
theorem restL_len (l : List Rng) : ∀ next, (restL next l).length = l.length + 1 := by
  induction l with
  | nil => intro next; rfl
  | cons r l ih => intro next; simp [restL, ih]
theorem restL_mem : ∀ (l : List Rng) (next : Int), 0 ≤ next → IsForm l → (∀ r ∈ l, next ≤ r.lo) → ∀ n, sizes (restL next l) n ↔ n ≤ 200 ∧ next ≤ n ∧ ¬ memS l n
  | [], next, h0, _, _, n => by
    unfold sizes restL
    rw [memS_cons, memS_nil, or_false]
    unfold inR
    simp only [memS_nil, not_false_eq_true, and_true]
    omega
  | r :: l, next, h0, hf, hn, n => by
    have hr := hf.ok r (by simp)
    have hrn := hn r (by simp)
    unfold Ok1 at hr
    have ih := restL_mem l (r.hi + 1) (by omega) hf.tail (fun x hx => by have := (List.pairwise_cons.1 hf.gap).1 x hx; omega) n
    have haf : memS l n → r.hi + 1 < n := fun h => hf.after h
    unfold restL
    have e : sizes (⟨next, r.lo - 1⟩ :: restL (r.hi + 1) l) n ↔ (0 ≤ n ∧ n ≤ 200 ∧ next ≤ n ∧ n ≤ r.lo - 1) ∨ sizes (restL (r.hi + 1) l) n := by
      unfold sizes
      rw [memS_cons]
      unfold inR
      simp only
      constructor
      · rintro ⟨a, b, c | c⟩
        · exact .inl ⟨a, b, c.1, c.2⟩
        · exact .inr ⟨a, b, c⟩
      · rintro (⟨a, b, c, d⟩ | ⟨a, b, c⟩)
        · exact ⟨a, b, .inl ⟨c, d⟩⟩
        · exact ⟨a, b, .inr c⟩
    rw [e, ih, memS_cons]
    unfold inR
    constructor
    · rintro (⟨a, b, c, d⟩ | ⟨b, c, d⟩)
      · refine ⟨b, c, ?_⟩
        rintro (h | h)
        · omega
        · have := haf h; omega
      · refine ⟨b, by omega, ?_⟩
        rintro (h | h)
        · omega
        · exact d h
    · rintro ⟨b, c, d⟩
      by_cases hlt : n < r.lo
      · exact .inl ⟨by omega, b, c, by omega⟩
      · refine .inr ⟨b, ?_, fun h => d (.inr h)⟩
        have : ¬ (r.lo ≤ n ∧ n ≤ r.hi) := fun h => d (.inl h)
        omega

set_option maxRecDepth 100000 in
set_option maxHeartbeats 2000000 in
theorem rest_c (w : World) (v : Value) (l : List Rng) (h : Sl w 2 v (l.map Rng.cells)) (hl : l.length ≤ 300) : Calls Tryz.prog 37 #[v] w (RetQ (RowAt Rng.cells 2 (nf fun n => 0 ≤ n ∧ n ≤ 200 ∧ ¬ sizes l n)) w) := by
  have HN := hid (norm_c w v l h (by omega))
  obtain ⟨f1, f2, f3⟩ := nf_form l
  obtain ⟨A, c, rfl, _⟩ := sl_get h
  clear h
  generalize nf (sizes l) = N at HN f1 f2 f3
  have hset : nf (sizes (restL 0 N)) = nf fun n => 0 ≤ n ∧ n ≤ 200 ∧ ¬ sizes l n := nf_congr fun n => by
    rw [restL_mem N 0 (Int.le_refl _) f1 (fun r hr => (f1.ok r hr).1), f2]
    constructor
    · rintro ⟨a, b, c⟩; exact ⟨b, a, c⟩
    · rintro ⟨a, b, c⟩; exact ⟨b, a, c⟩
  have HNo := fun W (u : Value) (hs : Sl W 2 u ((restL 0 N).map Rng.cells)) => hid (norm_c W u (restL 0 N) hs (by rw [restL_len]; omega))
  rw [hset] at HNo
  have HLen := hid (restL_len N 0)
  have HOk := hid f1.ok
  clear hset f1 f2
  go_enter Tryz.func37, Tryz.ntmps37
  go_wp2_with (go_at_call 38; refine (HN.out).mono ?_; rintro e w1 ⟨v1, rfl, hv1, hx1⟩; obtain ⟨A1, c1, hu, q1, q2, q3⟩ := sl_get hv1.1; subst hu; have HX1 := hid hx1; clear hv1 hx1)
  unfold maxLen at q2
  go_loopw [3, 4, 10] (fun v s i wr => ∃ (k : Nat) (next : Int) (acc : List Rng), k ≤ N.length ∧ s = .int .i64 next ∧ i = .int .i64 k ∧ 0 ≤ next ∧ next ≤ 201 ∧ acc.length ≤ k ∧ Hid (acc ++ restL next (N.drop k) = restL 0 N) ∧ Ext w1 wr ∧ wr.ownsRow w1.heap.size 32 2 v acc.length (acc.map Rng.cells).flatten) (fun _ _ i _ => N.length - (intOf i).toNat)
  case atStart => exact ⟨0, 0, [], by omega, rfl, rfl, by omega, by omega, by simp, by exact List.nil_append _, Ext.refl _, ownsRow_nil _ _ _ _⟩
  case round =>
    obtain ⟨k, next, acc, hk, rfl, rfl, hn0, hn1, hacc, hrest, hE, hO⟩ := hrel
    have HE := hid hE
    by_cases hlt : k < N.length
    · obtain ⟨b', o, rfl, lb, hcell⟩ := q3 (by omega)
      have c0 := hE.cell (hcell k hlt 0 _ rfl)
      have c1 := hE.cell (hcell k hlt 1 _ rfl)
      rw [Nat.add_zero] at c0
      have hd : N.drop k = N[k] :: N.drop (k + 1) := List.drop_eq_getElem_cons hlt
      have HR : Hid ((acc ++ [⟨next, N[k].lo - 1⟩]) ++ restL (N[k].hi + 1) (N.drop (k + 1)) = restL 0 N) := by
        have := hrest.out
        rw [hd, restL] at this
        unfold Hid
        rw [List.append_assoc]
        exact this
      have ho := HOk.out _ (List.getElem_mem hlt)
      unfold Ok1 at ho
      have HO := hid hO
      have hb := Blk.new wr 32 #[.int .i64 N[k].lo, .int .i64 N[k].hi]
      clear hE hcell q3 hrest hO hd
      generalize N[k] = z at c0 c1 HR ho hb
      have hE5 := Ext.alloc wr (.cells #[.int .i64 z.lo, .int .i64 z.hi] 32)
      obtain ⟨v', w4, hrun, ho4, hk4, _⟩ := app_one (P := Tryz.prog) rng_elem rng_coded (ownsRow_ext HO.out hE5) (HE.out.trans hE5).size ⟨next, z.lo - 1⟩ (by omega) (by omega)
      simp only [Rng.cells] at hrun
      rw [show (wr.alloc (.cells #[.int .i64 z.lo, .int .i64 z.hi] 32)).heap.size = wr.heap.size + 1 by simp] at hrun
      have HO4 := hid ho4
      have HE4 : Hid (Ext w1 w4) := hk4.toExt (HE.out.trans hE5) (fun q hq => (row_block HO.out q hq).1)
      have hb4 := hb.keep hk4 (fun h => by have := (row_block HO.out _ h).2; omega)
      have x1 := hb4.cell (i := 1) (v := .int .i64 z.hi) rfl
      have lx := hb4.lt
      clear ho4 hk4 hE5 hb hb4
      go_wp2_with (at_builtin; refine wpList_app rfl (.tmp 14) (.tmp 20) _ _ rfl rfl rfl hrun ?_)
      go_roundw
      case rel => exact ⟨k + 1, z.hi + 1, _, by omega, rfl, by go_num, by omega, by omega, by simp; omega, HR.out, HE4.out, HO4.out⟩
      case measure => simp [intOf]; omega
    · obtain rfl : k = N.length := by omega
      have HR : Hid (acc ++ [⟨next, 200⟩] = restL 0 N) := by
        have := hrest.out
        rw [List.drop_length, restL] at this
        exact this
      obtain ⟨v', w4, hrun, ho4, hk4, _⟩ := app_one (P := Tryz.prog) rng_elem rng_coded hO hE.size ⟨next, 200⟩ (by omega) (by omega)
      simp only [Rng.cells] at hrun
      have HE4 : Hid (Ext w1 w4) := hk4.toExt hE (fun q hq => (row_block hO q hq).1)
      rw [HR.out] at ho4
      have HNr := HNo w4 v' (sl_of_row (rng_coded.sizes _) (by rw [List.length_map]; exact ho4))
      clear hE hO q3 hrest ho4 hk4 HNo
      go_wp2_with (first
        | (at_builtin; refine wpList_app rfl (.tmp 26) (.tmp 29) _ _ rfl rfl rfl hrun ?_)
        | (go_at_call 38; refine (HNr.out).mono ?_; rintro e w5 ⟨v5, rfl, hv5, hx5⟩; have HV5 := hid hv5; have HX5 := hid hx5; clear hv5 hx5))
      go_ret
      exact ⟨_, rfl, HV5.out, HX1.out.trans (HE4.out.trans HX5.out)⟩

set_option maxRecDepth 100000 in
set_option maxHeartbeats 2000000 in
theorem minus8_f (w : World) (v u : Value) (a b : List Rng) (h : Sl w 2 v (a.map Rng.cells)) (hb : Sl w 2 u (b.map Rng.cells)) (hl : a.length ≤ 200) (hl2 : b.length ≤ 200) : Calls Tryz.prog 20 #[v, u] w (RetQ (fun v' w' => RowAt Rng.cells 2 (nf fun n => sizes a n ∧ ¬ sizes b n) v' w' ∧ Fresh w v') w) := by
  have HR := hid (rest_c w u b hb (by omega))
  obtain ⟨fb1, fb2, fb3⟩ := nf_form b
  -- the rest's own normal form
  have hrs : ∀ n, sizes (restL 0 (nf (sizes b))) n ↔ 0 ≤ n ∧ n ≤ 200 ∧ ¬ sizes b n := fun n => by
    rw [restL_mem _ 0 (Int.le_refl _) fb1 (fun r hr => (fb1.ok r hr).1), fb2]
    constructor
    · rintro ⟨a, b, c⟩; exact ⟨b, a, c⟩
    · rintro ⟨a, b, c⟩; exact ⟨b, a, c⟩
  have he : (nf fun n => 0 ≤ n ∧ n ≤ 200 ∧ ¬ sizes b n) = nf (sizes (restL 0 (nf (sizes b)))) := nf_congr fun n => (hrs n).symm
  obtain ⟨g1, g2, g3⟩ := nf_form (restL 0 (nf (sizes b)))
  rw [← he] at g1 g2 g3
  rw [restL_len] at g3
  have hset : (nf fun n => sizes a n ∧ sizes (nf fun n => 0 ≤ n ∧ n ≤ 200 ∧ ¬ sizes b n) n) = nf fun n => sizes a n ∧ ¬ sizes b n := nf_congr fun n => by
    rw [sizes_form g1, g2, hrs]
    constructor
    · rintro ⟨a, _, _, c⟩; exact ⟨a, c⟩
    · rintro ⟨a, c⟩; exact ⟨a, a.1, a.2.1, c⟩
  have HM := fun W (he : Ext w W) (x : Value) (hx : Sl W 2 x ((nf fun n => 0 ≤ n ∧ n ≤ 200 ∧ ¬ sizes b n).map Rng.cells)) => hid (meet8_f W v x a _ (h.ext he) hx (by omega) (by omega))
  rw [hset] at HM
  obtain ⟨A, c, rfl, _⟩ := sl_get h
  obtain ⟨A', c', rfl, _⟩ := sl_get hb
  clear h hb hset he hrs g1 g2 g3 fb1 fb2 fb3
  go_enter Tryz.func20, Tryz.ntmps20
  go_wp2_with (first
    | (go_at_call 37; refine (HR.out).mono ?_; rintro e w1 ⟨x, rfl, hx, hx1⟩; have HX1 := hid hx1; have HX := hid hx.1; clear hx hx1)
    | (go_at_call 36; refine (HM _ HX1.out _ HX.out).out.mono ?_; rintro e w2 ⟨y, rfl, hy, hx2⟩))
  go_ret
  exact ⟨_, rfl, ⟨hy.1, hy.2.early HX1.out⟩, HX1.out.trans hx2⟩
end Go.Proofs.YtgkdiknmjgpgmaaGreatDoor.Sz
