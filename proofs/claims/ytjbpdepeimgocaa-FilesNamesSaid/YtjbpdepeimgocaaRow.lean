/-
  Rows of elements of any code: a slice that reads as a list, a row of one's own, append. Of no program.
-/
import Derived.Test.YtjbpdepeimgocaaBase
import Derived.Deep.Upon
import Derived.Deep.AppendLies
namespace Go.Proofs.Ytjbpdepeimgocaa
set_option linter.unusedSimpArgs false
set_option linter.unusedVariables false
open Go.RowKit

/-- Each element has sz cells, and each of them is one. -/
structure Coded {α : Type} (code : α → List Value) (sz : Nat) : Prop where
  len : ∀ a, (code a).length = sz
  one : ∀ a, ∀ u ∈ code a, u.oneCell' = true
section
variable {α : Type} {code : α → List Value} {sz : Nat}
theorem Coded.sizes (h : Coded code sz) (l : List α) : ∀ x ∈ l.map code, x.length = sz := by
  intro x hx
  obtain ⟨y, _, rfl⟩ := List.mem_map.1 hx
  exact h.len y
theorem Coded.flat_len (h : Coded code sz) : ∀ l : List α, ((l.map code).flatten).length = l.length * sz
  | [] => by simp
  | x :: l => by
    rw [List.map_cons, List.flatten_cons, List.length_append, h.len, h.flat_len l, List.length_cons, Nat.add_mul]
    omega
theorem Coded.flat_one (h : Coded code sz) (l : List α) : ∀ u ∈ (l.map code).flatten, u.oneCell' = true := by
  intro u hu
  obtain ⟨x, hx, hu⟩ := List.mem_flatten.1 hu
  obtain ⟨a, _, rfl⟩ := List.mem_map.1 hx
  exact h.one a u hu
theorem Coded.flat_take (h : Coded code sz) (l : List α) (k : Nat) : ((l.take k).map code).flatten = ((l.map code).flatten).take (k * sz) := by
  induction l generalizing k with
  | nil => simp
  | cons x l ih =>
    cases k with
    | zero => simp
    | succ k =>
      rw [List.take_succ_cons, List.map_cons, List.flatten_cons, ih, List.map_cons, List.flatten_cons, Nat.add_mul, Nat.one_mul, Nat.add_comm, ← h.len x, List.take_length_add_append]
theorem Coded.flat_drop (h : Coded code sz) (l : List α) (k : Nat) : ((l.drop k).map code).flatten = ((l.map code).flatten).drop (k * sz) := by
  induction l generalizing k with
  | nil => simp
  | cons x l ih =>
    cases k with
    | zero => simp
    | succ k =>
      rw [List.drop_succ_cons, ih, List.map_cons, List.flatten_cons, Nat.add_mul, Nat.one_mul, Nat.add_comm, ← h.len x, List.drop_length_add_append]
theorem Coded.flat_at (h : Coded code sz) (l : List α) (k j : Nat) (hk : k < l.length) (hj : j < sz) : ((l.map code).flatten)[k * sz + j]? = (code l[k])[j]? :=
  flat_get sz (l.map code) k j (code l[k]) (h.sizes l) (by simp [hk]) hj

theorem ownsRow_ext {w w' : World} {base : Nat} {e : TypeId} {sz : Nat} {v : Value} {n : Nat} {xs : List Value} (h : w.ownsRow base e sz v n xs) (he : Ext w w') : w'.ownsRow base e sz v n xs :=
  ⟨h.1, h.2.imp id fun ⟨g, cap, cur, hv, hb, hg, r⟩ => ⟨g, cap, cur, hv, hb, he.heap hg, r⟩⟩
theorem row_block {w : World} {B : Nat} {e : TypeId} {sz : Nat} {v : Value} {n : Nat} {xs : List Value} (h : w.ownsRow B e sz v n xs) (a : Nat) (ha : v.ownBlock = some a) : B ≤ a ∧ a < w.heap.size := by
  rcases h.2 with ⟨rfl, _⟩ | ⟨g, cap, cur, rfl, hb, hg, _⟩
  · simp [Value.ownBlock] at ha
  · simp [Value.ownBlock] at ha
    subst ha
    exact ⟨hb, (show Blk w g e cur from hg).lt⟩
theorem ownsRow_keep {S : Nat → Prop} {w w' : World} {base : Nat} {e : TypeId} {sz : Nat} {v : Value} {n : Nat} {xs : List Value} (h : w.ownsRow base e sz v n xs) (he : Keep S w w') (hs : ∀ q, v.ownBlock = some q → ¬ S q) : w'.ownsRow base e sz v n xs :=
  ⟨h.1, h.2.imp id fun ⟨g, cap, cur, hv, hb, hg, r⟩ => ⟨g, cap, cur, hv, hb, (he.block g (show Blk w g e cur from hg).lt (hs g (by rw [hv]; rfl))).trans hg, r⟩⟩
theorem ownsRow_mono {w : World} {base base' : Nat} {e : TypeId} {sz : Nat} {v : Value} {n : Nat} {xs : List Value} (h : w.ownsRow base e sz v n xs) (hb : base' ≤ base) : w.ownsRow base' e sz v n xs :=
  ⟨h.1, h.2.imp id fun ⟨g, cap, cur, hv, hb', r⟩ => ⟨g, cap, cur, hv, Nat.le_trans hb hb', r⟩⟩
theorem ownsRow_nil (w : World) (base : Nat) (e : TypeId) (sz : Nat) : w.ownsRow base e sz (.slice none 0 0) 0 [] := ⟨by simp, .inl ⟨rfl, rfl⟩⟩
theorem sl_of_row {w : World} {base : Nat} {e : TypeId} {v : Value} {xs : List (List Value)} (hsz : ∀ x ∈ xs, x.length = sz) (h : w.ownsRow base e sz v xs.length xs.flatten) : Sl w sz v xs := by
  rcases h.2 with ⟨rfl, h0⟩ | ⟨g, cap, cur, rfl, _, hg, h1, h2, h3, h4⟩
  · have : xs = [] := List.eq_nil_of_length_eq_zero h0
    subst this
    exact Sl.nil w sz
  · exact Sl.of_flat (show Blk w g e cur from hg) ⟨cur.toList.drop (xs.length * sz), by rw [← h4, List.take_append_drop]⟩ hsz rfl h1 h2

/-- v is a slice that reads as l; it is nil where l is empty. -/
def RowAt (code : α → List Value) (sz : Nat) (l : List α) (v : Value) (w : World) : Prop := Sl w sz v (l.map code) ∧ (l.length = 0 → v = .slice none 0 0)
theorem RowAt.ext {l : List α} {v : Value} {w w' : World} (h : RowAt code sz l v w) (he : Ext w w') : RowAt code sz l v w' := ⟨h.1.ext he, h.2⟩
theorem RowAt.steady (code : α → List Value) (sz : Nat) (l : List α) (v : Value) : Steady (RowAt code sz l v) := fun _ _ he h => h.ext he
theorem RowAt.nil (w : World) : RowAt code sz ([] : List α) (.slice none 0 0) w := ⟨Sl.nil w sz, fun _ => rfl⟩
theorem RowAt.of_row (hc : Coded code sz) {B : Nat} {l : List α} {v : Value} {w : World} {e : TypeId} (h : w.ownsRow B e sz v l.length (l.map code).flatten) (hz : l.length = 0 → v = .slice none 0 0) : RowAt code sz l v w :=
  ⟨sl_of_row (e := e) (base := B) (hc.sizes l) (by rw [List.length_map]; exact h), hz⟩
/-- What a slice that reads as l has. -/
theorem sl_get {l : List α} {v : Value} {w : World} (h : Sl w sz v (l.map code)) : ∃ A c, v = .slice A l.length c ∧ l.length ≤ c ∧ c ≤ maxLen ∧ (0 < l.length → ∃ b o, A = some ⟨b, o, none⟩ ∧ b < w.heap.size ∧ ∀ k (_ : k < l.length) j u, (code l[k])[j]? = some u → w.cell? ⟨b, o + k * sz + j, none⟩ = some u) := by
  obtain ⟨A, c, h1, h2, h3, h4⟩ := h
  simp only [List.length_map] at h1 h2 h4
  refine ⟨A, c, h1, h2, h3, fun hn => ?_⟩
  obtain ⟨b, o, h5, h6, h7⟩ := h4 hn
  exact ⟨b, o, h5, h6, fun k hk j u hu => h7 k _ j u (by simp [hk]) hu⟩
/-- Its cells, one behind the other. -/
theorem sl_flat (hc : Coded code sz) {l : List α} {w : World} {b o : Nat} (hcell : ∀ k (_ : k < l.length) j u, (code l[k])[j]? = some u → w.cell? ⟨b, o + k * sz + j, none⟩ = some u) (t : Nat) (u : Value) (hu : ((l.map code).flatten)[t]? = some u) : w.cell? ⟨b, o + t, none⟩ = some u := by
  have hlt : t < l.length * sz := by
    have := (List.getElem?_eq_some_iff.1 hu).1
    rwa [hc.flat_len] at this
  have hsz : 0 < sz := by
    rcases Nat.eq_zero_or_pos sz with h | h
    · subst h; simp at hlt
    · exact h
  have hq : t / sz < l.length := Nat.div_lt_of_lt_mul (by rw [Nat.mul_comm]; exact hlt)
  have hm : t % sz < sz := Nat.mod_lt _ hsz
  have e : t / sz * sz + t % sz = t := by rw [Nat.mul_comm]; exact Nat.div_add_mod t sz
  have := hc.flat_at l (t / sz) (t % sz) hq hm
  rw [e, hu] at this
  have := hcell (t / sz) hq (t % sz) u this.symm
  rwa [Nat.add_assoc, e] at this
theorem src_take {P : Program} {tx e' : TypeId} (hk : P.underlying tx = some (.slice e')) (hc : Coded code sz) {l : List α} {w : World} {b o : Nat} (hcell : ∀ k (_ : k < l.length) j u, (code l[k])[j]? = some u → w.cell? ⟨b, o + k * sz + j, none⟩ = some u) (k c : Nat) (hkl : k ≤ l.length) {W : World} (hW : Ext w W) :
    Src P sz tx (.slice (some ⟨b, o, none⟩) k c) k ((l.take k).map code).flatten W :=
  Src.ofSlice W hk _ _ _ _ (by rw [hc.flat_len, List.length_take]; congr 1; omega) (fun j u hu => by
    rw [Addr.add_lit]
    refine hW.cell (sl_flat hc hcell j u ?_)
    rw [hc.flat_take, List.getElem?_take] at hu
    split at hu
    · exact hu
    · cases hu) (hc.flat_one _)
theorem src_drop {P : Program} {tx e' : TypeId} (hk : P.underlying tx = some (.slice e')) (hc : Coded code sz) {l : List α} {w : World} {b o : Nat} (hcell : ∀ k (_ : k < l.length) j u, (code l[k])[j]? = some u → w.cell? ⟨b, o + k * sz + j, none⟩ = some u) (k c : Nat) (hkl : k ≤ l.length) (hlc : l.length ≤ c) {W : World} (hW : Ext w W) :
    Src P sz tx (.slice (if c = k then some ⟨b, o, none⟩ else some ⟨b, o + k * sz, none⟩) (l.length - k) (c - k)) (l.length - k) ((l.drop k).map code).flatten W := by
  by_cases hck : c = k
  · rw [if_pos hck]
    refine Src.ofSlice W hk _ _ _ _ (by rw [hc.flat_len, List.length_drop]) (fun j u hu => ?_) (hc.flat_one _)
    have := (List.getElem?_eq_some_iff.1 hu).1
    rw [hc.flat_len, List.length_drop, show l.length - k = 0 by omega] at this
    omega
  · rw [if_neg hck]
    refine Src.ofSlice W hk _ _ _ _ (by rw [hc.flat_len, List.length_drop]) (fun j u hu => ?_) (hc.flat_one _)
    rw [Addr.add_lit, Nat.add_assoc]
    refine hW.cell (sl_flat hc hcell (k * sz + j) u ?_)
    rw [hc.flat_drop, List.getElem?_drop] at hu
    exact hu
theorem src_of_sl {P : Program} {tx e' : TypeId} (hk : P.underlying tx = some (.slice e')) (hc : Coded code sz) {l : List α} {w : World} {v : Value} (h : Sl w sz v (l.map code)) {W : World} (hW : Ext w W) : Src P sz tx v l.length (l.map code).flatten W := by
  obtain ⟨A, c, rfl, h1, h2, h3⟩ := sl_get h
  by_cases h0 : l.length = 0
  · have : l = [] := List.eq_nil_of_length_eq_zero h0
    subst this
    cases A with
    | none => exact Src.ofNil W hk c
    | some a => exact Src.ofSlice W hk a 0 c [] (by simp) (fun j u hu => by simp at hu) (by simp)
  · obtain ⟨b, o, rfl, _, hcell⟩ := h3 (by omega)
    have := src_take hk hc hcell l.length c (Nat.le_refl _) hW
    rwa [List.take_length] at this
end

theorem wpList_app {P : Program} {ops : Array Oper} {rest : List Oper} {o : Oper} {a : Act} {Q : Exit → Act → World → Prop} {w w' : World} (hgd : o.guard = none) (s x : Operand) (t tx : TypeId)
    (ho : o.op = .call { callee := .builtin .append, args := #[s, x], argTypes := #[t, tx] }) {v u v' : Value} (hv : a.eval s = v) (hx : a.eval x = u)
    (hrun : (Builtin.append_ #[t, tx] o.type #[v, u]).run P w = .ok v' w') (hK : wpList P ops Q rest (a.put o.dst v') w') : wpList P ops Q (o :: rest) a w := by
  refine wpList_plain hgd fun K hK' => ?_
  unfold Oper.wp
  simp [execOp, ho, resolve, invoke, builtin, hv, hx, hrun, Result.andThen]
  exact hK' _ _ hK

theorem set_cells {B g : Nat} {e : TypeId} (hg : B ≤ g) : ∀ (vs : List Value) (k : Nat) (w1 : World) (c1 : Array Value), Blk w1 g e c1 → k + vs.length ≤ c1.size → ∃ c2, Blk (w1.setCells g k vs) g e c2 ∧ c2.size = c1.size ∧ c2.toList = c1.toList.take k ++ vs ++ c1.toList.drop (k + vs.length) ∧ Keep (fun q => q = g) w1 (w1.setCells g k vs) := by
  intro vs
  induction vs with
  | nil => intro k w1 c1 hb hk; exact ⟨c1, hb, rfl, by simp, Keep.refl _ _⟩
  | cons u vs ih =>
    intro k w1 c1 hb hk
    simp only [List.length_cons] at hk
    obtain ⟨c2, b2, s2, t2, e2⟩ := ih (k + 1) (w1.setCell ⟨g, k, none⟩ u) _ (hb.set k u) (by simp; omega)
    refine ⟨c2, b2, by simpa using s2, ?_, Keep.trans (Keep.setCell (S := fun q => q = g) (Keep.refl _ _) (p := ⟨g, k, none⟩) (.inl rfl) u) e2⟩
    rw [t2]
    have hk' : k < c1.toList.length := by simp; omega
    have hlk : (c1.toList.take k).length = k := by rw [List.length_take]; omega
    have hX : (c1.toList.take k ++ [u]).length = k + 1 := by simp only [List.length_append, hlk, List.length_singleton]
    have e1 : (c1.setIfInBounds k u).toList = (c1.toList.take k ++ [u]) ++ c1.toList.drop (k + 1) := by
      rw [Array.toList_setIfInBounds, List.set_eq_take_append_cons_drop, if_pos hk', List.append_assoc]; rfl
    rw [e1, List.take_left' hX, List.drop_append, List.drop_of_length_le (by omega), List.nil_append, hX, show k + 1 + vs.length - (k + 1) = vs.length by omega, List.drop_drop, List.append_assoc, List.length_cons, show k + 1 + vs.length = k + (vs.length + 1) by omega]
    simp

/-- What a type's row of the table says: its zero, its size, its bytes. -/
structure Elem (P : Program) (t e : TypeId) (sz bytes : Nat) : Prop where
  slice : P.underlying t = some (.slice e)
  info : ∃ i z, P.info? e = some i ∧ i.zero = some z ∧ i.size = sz ∧ i.bytes = bytes ∧ z.cells.size = sz

/-- append onto a row of one's own, or onto nil; of whatever, of nothing too. -/
theorem app_row {P : Program} {t tx ty e : TypeId} {sz bytes : Nat} (hE : Elem P t e sz bytes) {w : World} {B n m : Nat} {v x : Value} {xs news : List Value} (hown : w.ownsRow B e sz v n xs) (hB : B ≤ w.heap.size) (hs : Src P sz tx x m news w) (h63 : n + m ≤ maxLen) (hbytes : (n + m) * bytes ≤ 140737488355328) :
    ∃ v' w', (Builtin.append_ #[t, tx] ty #[v, x]).run P w = .ok v' w' ∧ w'.ownsRow B e sz v' (n + m) (xs ++ news) ∧ Keep (fun q => v.ownBlock = some q) w w' ∧ (v'.ownBlock = v.ownBlock ∨ ∀ q, v'.ownBlock = some q → w.heap.size ≤ q) ∧ (n + m = 0 → v = .slice none 0 0 → v' = .slice none 0 0) := by
  obtain ⟨ht, i, z, hi, hz, rfl, rfl, hzs⟩ := hE
  have hnl := hs.newsLen
  have grow : ∀ (base : Option Addr) (c : Nat), v = .slice base n c → (∀ j u, xs[j]? = some u → ∀ b, base = some b → w.cell? (b.add j) = some u) → (base = none → n = 0) → c < n + m →
      ∃ v' w', (Builtin.append_ #[t, tx] ty #[v, x]).run P w = .ok v' w' ∧ w'.ownsRow B e i.size v' (n + m) (xs ++ news) ∧ Keep (fun q => v.ownBlock = some q) w w' ∧ (v'.ownBlock = v.ownBlock ∨ ∀ q, v'.ownBlock = some q → w.heap.size ≤ q) ∧ (n + m = 0 → v = .slice none 0 0 → v' = .slice none 0 0) := by
    rintro base c rfl hold hnone hg
    have hf : (Builtin.firstCells i.size n (.slice base n c)).run P w.drew = .ok xs.toArray w.drew := by
      cases base with
      | none =>
        obtain rfl := hnone rfl
        obtain rfl : xs = [] := List.eq_nil_of_length_eq_zero (by simpa using hown.1)
        exact run_firstCells_none w.drew i.size 0 0 c
      | some b => exact run_firstCells_some (P := P) w.drew i.size n b n c xs hown.1 (fun j u hu => by simpa using hold j u hu b rfl)
    have hsmall : n + m ≤ 9223372036854775807 := by simp only [maxLen] at h63; omega
    have hr := run_append_grow_src (P := P) w t tx ty e i z ht hi hz base n c xs hf x m news hs hg (by omega) (growslice_fits hg hbytes)
    have hge := grownCap_ge w (n + m) c e
    have hcm : grownCap w (n + m) c e ≤ maxLen := grownCap_le_maxLen w (n + m) c e h63
    have hlen : (xs ++ news).length = (n + m) * i.size := by rw [List.length_append, hown.1, hnl, Nat.add_mul]
    refine ⟨_, _, hr, ⟨hlen, .inr ⟨w.heap.size, _, _, rfl, hB, (heap_alloc_new w.drew (.cells ((xs ++ news).toArray ++ Builtin.zeroCells z.cells (grownCap w (n + m) c e - (n + m))) e) : _), hge, hcm, ?_, ?_⟩⟩, Keep.of_ext (((Ext.refl w).drew').alloc' _), .inr fun q hq => ?_, fun h0 => by omega⟩
    · simp only [Array.size_append, List.size_toArray, size_zeroCells, hzs, hlen, ← Nat.add_mul]
      congr 1
      omega
    · simp only [Array.toList_append]
      rw [← hlen]
      exact List.take_left
    · simp [Value.ownBlock] at hq
      omega
  rcases hown.2 with ⟨rfl, rfl⟩ | ⟨g, cap, cs, rfl, hb, hgb, h1, h2, h3, h4⟩
  · obtain rfl : xs = [] := List.eq_nil_of_length_eq_zero (by simpa using hown.1)
    by_cases hm : m = 0
    · subst hm
      obtain rfl : news = [] := List.eq_nil_of_length_eq_zero (by simpa using hnl)
      exact ⟨_, _, run_append_nothing w t tx ty e i ht hi none 0 0 (Nat.le_refl _) x hs, hown, Keep.refl _ _, .inl rfl, fun _ h => h⟩
    · exact grow none 0 rfl (fun j u hu b hb => by cases hb) (fun _ => rfl) (by omega)
  · have hgb' : Blk w g e cs := hgb
    have hcells : ∀ j u, xs[j]? = some u → w.cell? ⟨g, j, none⟩ = some u := fun j u hu => by
      refine hgb'.cell ?_
      rw [← h4, List.getElem?_take] at hu
      split at hu
      · simpa using hu
      · cases hu
    by_cases hg : cap < n + m
    · exact grow (some ⟨g, 0, none⟩) cap rfl (fun j u hu b hb => by injection hb with hb; subst hb; rw [Addr.add_lit, Nat.zero_add]; exact hcells j u hu) (fun h => by cases h) hg
    · have hm1 : (n + m) * i.size ≤ cap * i.size := Nat.mul_le_mul_right _ (by omega)
      have hr := run_append_room_src (P := P) w t tx ty e i ht hi g 0 n cap x m news hs (by omega) (fun j hj => by
        have hlt : 0 + n * i.size + j < cs.size := by rw [Nat.add_mul] at hm1; omega
        rw [hgb'.cell (v := cs[0 + n * i.size + j]) (by simp)]; rfl) (fun j _ => hgb'.frozen _)
      obtain ⟨c2, b2, s2, t2, e2⟩ := set_cells hb news (0 + n * i.size) w cs hgb' (by rw [hnl, Nat.zero_add, ← Nat.add_mul]; omega)
      rw [Nat.zero_add] at hr b2 t2 e2
      have htk : c2.toList.take (n * i.size + news.length) = xs ++ news := by
        rw [t2, h4, ← hown.1, ← List.length_append]
        exact List.take_left
      exact ⟨_, _, hr, ⟨by rw [List.length_append, hown.1, hnl, Nat.add_mul], .inr ⟨g, cap, c2, rfl, hb, b2, by omega, h2, s2.trans h3, by rw [Nat.add_mul, ← hnl]; exact htk⟩⟩, e2.mono fun q hq => by subst hq; rfl, .inl rfl, fun _ h => by cases h⟩

/-- A literal's block, a slice of it, as a row of one's own. -/
theorem own_lit {w : World} {B : Nat} (hB : B ≤ w.heap.size) (e : TypeId) (sz n : Nat) (cs : Array Value) (hn : n ≤ maxLen) (hcs : cs.size = n * sz) : (w.alloc (.cells cs e)).ownsRow B e sz (.slice (some ⟨w.heap.size, 0, none⟩) n n) n cs.toList :=
  ⟨by simpa using hcs, .inr ⟨w.heap.size, n, cs, rfl, hB, Blk.new w e cs, Nat.le_refl _, hn, hcs, by rw [List.take_of_length_le]; simp [hcs]⟩⟩
theorem src_row {P : Program} {tx e' e : TypeId} (hk : P.underlying tx = some (.slice e')) {B sz n : Nat} {xs : List Value} {v : Value} {w : World} (h : w.ownsRow B e sz v n xs) (h1 : ∀ u ∈ xs, u.oneCell' = true) : Src P sz tx v n xs w := by
  rcases h.2 with ⟨rfl, rfl⟩ | ⟨g, cap, cs, rfl, hb, hgb, _, h2, h3, h4⟩
  · obtain rfl : xs = [] := List.eq_nil_of_length_eq_zero (by simpa using h.1)
    exact Src.ofNil w hk 0
  · have hgb' : Blk w g e cs := hgb
    refine Src.ofSlice w hk ⟨g, 0, none⟩ n cap xs h.1 (fun j u hu => ?_) h1
    rw [Addr.add_lit, Nat.zero_add]
    refine hgb'.cell ?_
    rw [← h4, List.getElem?_take] at hu
    split at hu
    · simpa using hu
    · cases hu
theorem Keep.toExt {S : Nat → Prop} {a b c : World} (h : Ext a b) (k : Keep S b c) (hs : ∀ q, S q → a.heap.size ≤ q) : Ext a c :=
  Below.trans h (k.below h.size hs)

/-- append(append(append([]T, xs1..), y), xs2..): three rows become one. -/
theorem app_three {P : Program} {t e : TypeId} {sz bytes : Nat} (hE : Elem P t e sz bytes) {wr : World} (k m : Nat) (xs1 xs2 ys : List Value) (u1 u2 : Value) (hk : k ≤ 1000000) (hm : m ≤ 1000000) (hb : bytes ≤ 1000000) (hys : ys.length = sz) (hone : ∀ u ∈ ys, u.oneCell' = true)
    (hs1 : ∀ W, Ext wr W → Src P sz t u1 k xs1 W) (hs2 : ∀ W, Ext wr W → Src P sz t u2 m xs2 W) :
    ∃ va wa vb wb vc wc, (Builtin.append_ #[t, t] t #[.slice (some ⟨wr.heap.size, 0, none⟩) 0 0, u1]).run P (wr.alloc (.cells #[] e)) = .ok va wa ∧
      (Builtin.append_ #[t, t] t #[va, .slice (some ⟨wa.heap.size, 0, none⟩) 1 1]).run P (wa.alloc (.cells ys.toArray e)) = .ok vb wb ∧
      (Builtin.append_ #[t, t] t #[vb, u2]).run P wb = .ok vc wc ∧
      wc.ownsRow wr.heap.size e sz vc (k + 1 + m) (xs1 ++ ys ++ xs2) ∧ Ext wr wc ∧ Ext wr wa := by
  have hbb : ∀ q, q ≤ 2000001 → q * bytes ≤ 140737488355328 := fun q hq => Nat.le_trans (Nat.mul_le_mul hq hb) (by decide)
  have e0 : Ext wr (wr.alloc (.cells #[] e)) := Ext.alloc _ _
  have o0 := own_lit (w := wr) (Nat.le_refl _) e sz 0 #[] (by unfold maxLen; omega) (by simp)
  obtain ⟨va, wa, ra, oa, ka, _, _⟩ := app_row (ty := t) hE o0 e0.size (hs1 _ e0) (by unfold maxLen; omega) (hbb _ (by omega))
  have ea : Ext wr wa := ka.toExt e0 fun q hq => (row_block o0 q hq).1
  have eb : Ext wr (wa.alloc (.cells ys.toArray e)) := ea.alloc' _
  have ob := ownsRow_ext oa (Ext.alloc wa (.cells ys.toArray e))
  have sb : Src P sz t (.slice (some ⟨wa.heap.size, 0, none⟩) 1 1) 1 ys (wa.alloc (.cells ys.toArray e)) := src_row hE.slice (own_lit (w := wa) (Nat.le_refl _) e sz 1 ys.toArray (by unfold maxLen; omega) (by simpa using hys)) hone
  obtain ⟨vb, wb, rb, ob', kb, _, _⟩ := app_row (ty := t) hE ob eb.size sb (by unfold maxLen; omega) (hbb _ (by omega))
  have ec : Ext wr wb := kb.toExt eb fun q hq => (row_block ob q hq).1
  obtain ⟨vc, wc, rc, oc, kc, _, _⟩ := app_row (ty := t) hE ob' ec.size (hs2 _ ec) (by unfold maxLen; omega) (hbb _ (by omega))
  exact ⟨va, wa, vb, wb, vc, wc, ra, rb, rc, by simpa using oc, kc.toExt ec fun q hq => (row_block ob' q hq).1, ea⟩

section
variable {α : Type} {code : α → List Value} {sz : Nat}
/-- Block g holds these elements at its head, and has room for cap. -/
def RowB (code : α → List Value) (sz : Nat) (w : World) (g : Nat) (e : TypeId) (cap : Nat) (d : Array α) : Prop := ∃ cs, Blk w g e cs ∧ cs.size = cap * sz ∧ cs.toList.take (d.size * sz) = (d.toList.map code).flatten
theorem RowB.ext {w w' : World} {g : Nat} {e : TypeId} {cap : Nat} {d : Array α} (h : RowB code sz w g e cap d) (he : Ext w w') : RowB code sz w' g e cap d := by
  obtain ⟨cs, h1, h2⟩ := h
  exact ⟨cs, h1.ext he, h2⟩
theorem RowB.lt {w : World} {g : Nat} {e : TypeId} {cap : Nat} {d : Array α} (h : RowB code sz w g e cap d) : g < w.heap.size := by
  obtain ⟨cs, h1, _⟩ := h
  exact h1.lt
theorem RowB.frozen {w : World} {g : Nat} {e : TypeId} {cap : Nat} {d : Array α} (h : RowB code sz w g e cap d) (i : Nat) : w.frozen? ⟨g, i, none⟩ = false := by
  obtain ⟨cs, h1, _⟩ := h
  exact h1.frozen i
theorem RowB.there {w : World} {g : Nat} {e : TypeId} {cap : Nat} {d : Array α} (h : RowB code sz w g e cap d) (i : Nat) (hi : i < cap * sz) : (w.cell? ⟨g, i, none⟩).isSome = true := by
  obtain ⟨cs, h1, h2, _⟩ := h
  rw [h1.cell (v := cs[i]'(by omega)) (by simp)]
  rfl
theorem RowB.flat (hc : Coded code sz) {w : World} {g : Nat} {e : TypeId} {cap : Nat} {d : Array α} (h : RowB code sz w g e cap d) (t : Nat) (u : Value) (hu : ((d.toList.map code).flatten)[t]? = some u) : w.cell? ⟨g, t, none⟩ = some u := by
  obtain ⟨cs, h1, h2, h3⟩ := h
  refine h1.cell ?_
  rw [← h3, List.getElem?_take] at hu
  split at hu
  · simpa using hu
  · cases hu
theorem RowB.cell [Inhabited α] (hc : Coded code sz) {w : World} {g : Nat} {e : TypeId} {cap : Nat} {d : Array α} (h : RowB code sz w g e cap d) (j t : Nat) (u : Value) (hj : j < d.size) (ht : t < sz) (hu : (code d[j]!)[t]? = some u) : w.cell? ⟨g, j * sz + t, none⟩ = some u := by
  refine h.flat hc _ _ ?_
  rw [hc.flat_at d.toList j t (by simpa using hj) ht]
  rw [getElem!_pos d j hj] at hu
  simpa using hu
theorem flat_set (hc : Coded code sz) (l : List α) (k : Nat) (x : α) (hk : k < l.length) : ((l.set k x).map code).flatten = ((l.map code).flatten).take (k * sz) ++ code x ++ ((l.map code).flatten).drop (k * sz + sz) := by
  rw [List.set_eq_take_append_cons_drop, if_pos hk, List.map_append, List.flatten_append, hc.flat_take, List.map_cons, List.flatten_cons, hc.flat_drop, Nat.add_mul, Nat.one_mul, List.append_assoc]
theorem RowB.store (hc : Coded code sz) {w : World} {g : Nat} {e : TypeId} {cap : Nat} {d : Array α} (h : RowB code sz w g e cap d) (hn : d.size ≤ cap) (k : Nat) (hk : k < d.size) (x : α) :
    RowB code sz (w.setCells g (k * sz) (code x)) g e cap (d.setIfInBounds k x) ∧ Keep (fun q => q = g) w (w.setCells g (k * sz) (code x)) := by
  obtain ⟨cs, h1, h2, h3⟩ := h
  have hm : (k + 1) * sz ≤ d.size * sz := Nat.mul_le_mul_right _ hk
  have hm2 : d.size * sz ≤ cap * sz := Nat.mul_le_mul_right _ hn
  have hk1 : (k + 1) * sz = k * sz + sz := by rw [Nat.add_mul, Nat.one_mul]
  obtain ⟨c2, b2, s2, t2, k2⟩ := set_cells (Nat.le_refl g) (code x) (k * sz) w cs h1 (by rw [hc.len]; omega)
  refine ⟨⟨c2, b2, s2.trans h2, ?_⟩, k2⟩
  rw [Array.toList_setIfInBounds, flat_set hc _ _ _ (by simpa using hk), ← h3, t2, hc.len, Array.size_setIfInBounds]
  have hl1 : (cs.toList.take (k * sz)).length = k * sz := by rw [List.length_take, Array.length_toList]; omega
  have hl2 : (cs.toList.take (k * sz) ++ code x).length = k * sz + sz := by rw [List.length_append, hl1, hc.len]
  rw [List.take_append, List.take_of_length_le (by rw [hl2]; omega), hl2, List.take_take, Nat.min_eq_left (by omega), List.drop_take]
/-- clear behind the k-th element: what stands ahead of it stays. -/
theorem row_clear {P : Program} {t e ty : TypeId} {bytes : Nat} (hE : Elem P t e sz bytes) {z : Value} (hv : ∀ w, (zeroValue e).run P w = .ok z w) (hzs : z.cells.size = sz) (h1 : ∀ u ∈ z.cells, u.oneCell' = true) (hc : Coded code sz) {w : World} {g cap : Nat} {d : Array α} (h : RowB code sz w g e cap d) (hn : d.size ≤ cap) (k c : Nat) (hk : k < d.size) :
    ∃ w', (Builtin.clear_ #[t] ty #[.slice (some ⟨g, k * sz, none⟩) (d.size - k) c]).run P w = .ok (.tuple #[]) w' ∧ Keep (fun q => q = g) w w' ∧ RowB code sz w' g e cap (d.extract 0 k) := by
  obtain ⟨ht, _⟩ := hE
  obtain ⟨cs, b1, b2, b3⟩ := h
  have hzl : (Builtin.zeroCells z.cells (d.size - k)).toList.length = (d.size - k) * sz := by simp [Builtin.zeroCells, hzs]
  have hz1 : ∀ u ∈ (Builtin.zeroCells z.cells (d.size - k)).toList, u.oneCell' = true := by
    intro u hu
    obtain ⟨j, hj, rfl⟩ := List.getElem_of_mem hu
    rw [hzl] at hj
    have hpos : 0 < z.cells.size := by
      rcases Nat.eq_zero_or_pos z.cells.size with h | h
      · rw [← hzs, h] at hj; simp at hj
      · exact h
    have hm : j % z.cells.size < z.cells.size := Nat.mod_lt _ hpos
    have e2 : (Builtin.zeroCells z.cells (d.size - k)).toList[j]'(by rw [hzl]; exact hj) = z.cells[j % z.cells.size]'hm := by simp [Builtin.zeroCells, getElem!_pos z.cells (j % z.cells.size) hm]
    rw [e2]
    exact h1 _ (Array.getElem_mem hm)
  have e0 : k * sz + (d.size - k) * sz = d.size * sz := by rw [← Nat.add_mul]; congr 1; omega
  have hm2 : d.size * sz ≤ cap * sz := Nat.mul_le_mul_right _ hn
  have hst := run_storeCells_cells (P := P) g (k * sz) (Builtin.zeroCells z.cells (d.size - k)).toList 0 w (fun j hj => by
    have hlt : k * sz + 0 + j < cs.size := by omega
    rw [b1.cell (v := cs[k * sz + 0 + j]) (by simp)]; rfl) (fun j hj => b1.frozen _) hz1
  simp only [Nat.add_zero] at hst
  obtain ⟨c2, a2, s2, t2, k2⟩ := set_cells (Nat.le_refl g) (Builtin.zeroCells z.cells (d.size - k)).toList (k * sz) w cs b1 (by rw [hzl]; omega)
  refine ⟨_, ?_, k2, c2, a2, s2.trans b2, ?_⟩
  · obtain ⟨m, hm⟩ : ∃ m, d.size - k = m + 1 := ⟨d.size - k - 1, by omega⟩
    rw [hm] at hst ⊢
    simp [Builtin.clear_, run_underlying ht, hv, hst]
  · have hl1 : (cs.toList.take (k * sz)).length = k * sz := by rw [List.length_take, Array.length_toList]; omega
    have hsz : (d.extract 0 k).size = k := by simp; omega
    have hex : (d.extract 0 k).toList = d.toList.take k := by rw [Array.toList_extract, List.extract_eq_take_drop]; simp
    have e1 : k * sz ≤ d.size * sz := Nat.mul_le_mul_right _ (by omega)
    rw [hsz, hex, hc.flat_take, ← b3, t2, List.append_assoc, List.take_take, Nat.min_eq_left e1]
    exact List.take_left' hl1
end

section
variable {α : Type} {code : α → List Value} {sz : Nat}
/-- One element more on a row of one's own. -/
theorem app_one {P : Program} {t e : TypeId} {bytes : Nat} (hE : Elem P t e sz bytes) (hc : Coded code sz) {w : World} {B : Nat} {v : Value} {acc : List α} (hown : w.ownsRow B e sz v acc.length (acc.map code).flatten) (hB : B ≤ w.heap.size) (x : α) (hl : acc.length ≤ 1000000) (hb : bytes ≤ 1000000) :
    ∃ v' w', (Builtin.append_ #[t, t] t #[v, .slice (some ⟨w.heap.size, 0, none⟩) 1 1]).run P (w.alloc (.cells (code x).toArray e)) = .ok v' w' ∧ w'.ownsRow B e sz v' (acc ++ [x]).length ((acc ++ [x]).map code).flatten ∧ Keep (fun q => v.ownBlock = some q) w w' ∧ (v'.ownBlock = v.ownBlock ∨ ∀ q, v'.ownBlock = some q → w.heap.size ≤ q) := by
  have hbb : ∀ q, q ≤ 2000001 → q * bytes ≤ 140737488355328 := fun q hq => Nat.le_trans (Nat.mul_le_mul hq hb) (by decide)
  have ho := ownsRow_ext hown (Ext.alloc w (.cells (code x).toArray e))
  have sb : Src P sz t (.slice (some ⟨w.heap.size, 0, none⟩) 1 1) 1 (code x) (w.alloc (.cells (code x).toArray e)) := src_row hE.slice (own_lit (w := w) (Nat.le_refl _) e sz 1 (code x).toArray (by unfold maxLen; omega) (by simpa using hc.len x)) (hc.one x)
  obtain ⟨v', w', hr, ho', hk, hbl, _⟩ := app_row (ty := t) hE ho (Nat.le_trans hB (Ext.alloc w (.cells (code x).toArray e)).size) sb (by unfold maxLen; omega) (hbb _ (by omega))
  exact ⟨v', w', hr, by simpa using ho', (Keep.of_ext (Ext.alloc w _)).trans hk, hbl.imp id fun h q hq => Nat.le_trans (Ext.alloc w (.cells (code x).toArray e)).size (h q hq)⟩
/-- append onto a slice without room, of whatever. -/
theorem app_full {P : Program} {t tx ty e : TypeId} {bytes : Nat} (hE : Elem P t e sz bytes) (hc : Coded code sz) {w : World} {l m : List α} {A : Option Addr} {c : Nat} (h : Sl w sz (.slice A l.length c) (l.map code)) {x : Value} (hs : Src P sz tx x m.length (m.map code).flatten w) (hl : l.length ≤ 1000000) (hm : m.length ≤ 1000000) (hb : bytes ≤ 1000000) :
    ∃ v' w', (Builtin.append_ #[t, tx] ty #[.slice A l.length l.length, x]).run P w = .ok v' w' ∧ Sl w' sz v' ((l ++ m).map code) ∧ Ext w w' := by
  have hbb : ∀ q, q ≤ 2000001 → q * bytes ≤ 140737488355328 := fun q hq => Nat.le_trans (Nat.mul_le_mul hq hb) (by decide)
  obtain ⟨A', c', h1, h2, h3, h4⟩ := sl_get h
  injection h1 with hA hn hcc
  subst hA
  obtain ⟨ht, i, z, hi, hz, rfl, rfl, hzs⟩ := hE
  by_cases hm0 : m.length = 0
  · obtain rfl : m = [] := List.eq_nil_of_length_eq_zero hm0
    refine ⟨_, _, run_append_nothing w t tx ty e i ht hi A l.length l.length (Nat.le_refl _) x hs, ?_, Ext.refl w⟩
    rw [List.append_nil]
    refine ⟨A, l.length, by simp, by simp, by unfold maxLen; omega, fun hp => ?_⟩
    rw [List.length_map] at hp
    obtain ⟨b, o, h5, h6, h7⟩ := h4 hp
    refine ⟨b, o, h5, h6, fun k y j u hk hj => ?_⟩
    simp only [List.getElem?_map, Option.map_eq_some_iff] at hk
    obtain ⟨y', hy, rfl⟩ := hk
    obtain ⟨hkl, rfl⟩ := List.getElem?_eq_some_iff.1 hy
    exact h7 k hkl j u hj
  · have hf : (Builtin.firstCells i.size l.length (.slice A l.length l.length)).run P w.drew = .ok (l.map code).flatten.toArray w.drew := by
      by_cases hl0 : l.length = 0
      · obtain rfl : l = [] := List.eq_nil_of_length_eq_zero hl0
        cases A with
        | none => exact run_firstCells_none w.drew i.size 0 0 0
        | some a => exact run_firstCells_some (P := P) w.drew i.size 0 a 0 0 [] (by simp) (fun j u hu => by simp at hu)
      · obtain ⟨b, o, rfl, h6, h7⟩ := h4 (by omega)
        exact run_firstCells_some (P := P) w.drew i.size l.length ⟨b, o, none⟩ l.length l.length _ (hc.flat_len l) (fun j u hu => by
          rw [Addr.add_lit]
          exact (Ext.drew w).cell (sl_flat hc h7 j u hu))
    have hsmall : l.length + m.length ≤ 9223372036854775807 := by omega
    have hr := run_append_grow_src (P := P) w t tx ty e i z ht hi hz A l.length l.length _ hf x m.length _ hs (by omega) (by omega) (growslice_fits (by omega) (hbb _ (by omega)))
    have hge := grownCap_ge w (l.length + m.length) l.length e
    have hcm : grownCap w (l.length + m.length) l.length e ≤ maxLen := grownCap_le_maxLen w (l.length + m.length) l.length e (by unfold maxLen; omega)
    refine ⟨_, _, hr, ?_, ((Ext.refl w).drew').alloc' _⟩
    have hblk := Blk.new w.drew e (((l.map code).flatten ++ (m.map code).flatten).toArray ++ Builtin.zeroCells z.cells (grownCap w (l.length + m.length) l.length e - (l.length + m.length)))
    exact Sl.of_flat hblk ⟨(Builtin.zeroCells z.cells (grownCap w (l.length + m.length) l.length e - (l.length + m.length))).toList, by simp⟩ (hc.sizes _) (by simp) hge hcm
end

theorem gives_app {P : Program} {o : Oper} {a : Act} {w w' : World} {s x : Operand} {t tx : TypeId} (ho : o.op = .call { callee := .builtin .append, args := #[s, x], argTypes := #[t, tx] }) {v u v' : Value} (hs : a.eval s = v) (hx : a.eval x = u)
    (hr : (Builtin.append_ #[t, tx] o.type #[v, u]).run P w = .ok v' w') {ψ : Value → World → Prop} (h : ψ v' w') : Gives P ψ ((execOp a.eval o).run P w) := by
  unfold execOp
  simp only [ho, resolve, invoke, builtin, Sem.run_bind, Sem.run_pure, Result.andThen_ok, List.map_toArray, List.map_cons, List.map_nil, hs, hx, hr]
  exact h
theorem src_new {P : Program} {tx e' e : TypeId} (hk : P.underlying tx = some (.slice e')) {sz n c : Nat} {cs : Array Value} {v : Value} {w : World} (h : NewSl e cs n c v w) (hcs : cs.size = n * sz) (h1 : ∀ u ∈ cs.toList, u.oneCell' = true) : Src P sz tx v n cs.toList w := by
  obtain ⟨g, rfl, hb⟩ := h
  refine Src.ofSlice w hk ⟨g, 0, none⟩ n c _ (by simpa using hcs) (fun j u hu => ?_) h1
  rw [Addr.add_lit, Nat.zero_add]
  exact hb.cell (by simpa using hu)

/-- append([]T{}, l...). -/
theorem app_copy {α : Type} {code : α → List Value} {sz : Nat} {P : Program} {t tx ty e : TypeId} {bytes : Nat} (hE : Elem P t e sz bytes) (hc : Coded code sz) {w : World} {v : Value} {l : List α} (hk : P.underlying tx = some (.slice e)) (h : Sl w sz v (l.map code)) (hl : l.length ≤ 1000000) (hb : bytes ≤ 1000000) :
    ∃ v' w', (Builtin.append_ #[t, tx] ty #[.slice (some ⟨w.heap.size, 0, none⟩) 0 0, v]).run P (w.alloc (.cells #[] e)) = .ok v' w' ∧ Sl w' sz v' (l.map code) ∧ Ext w w' := by
  have hbb : ∀ q, q ≤ 2000001 → q * bytes ≤ 140737488355328 := fun q hq => Nat.le_trans (Nat.mul_le_mul hq hb) (by decide)
  have e0 : Ext w (w.alloc (.cells #[] e)) := Ext.alloc _ _
  have o0 := own_lit (w := w) (Nat.le_refl _) e sz 0 #[] (by unfold maxLen; omega) (by simp)
  obtain ⟨v', w', hr, ho, hk2, _⟩ := app_row (ty := ty) hE o0 e0.size (src_of_sl hk hc h e0) (by unfold maxLen; omega) (hbb _ (by omega))
  refine ⟨v', w', hr, ?_, hk2.toExt e0 fun q hq => (row_block o0 q hq).1⟩
  refine sl_of_row (e := e) (base := w.heap.size) (hc.sizes l) ?_
  rw [List.length_map]
  simpa using ho
end Go.Proofs.Ytjbpdepeimgocaa
