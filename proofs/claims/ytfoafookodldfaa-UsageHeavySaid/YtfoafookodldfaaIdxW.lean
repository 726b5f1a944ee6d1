/-
  The document's pairs: Find, Drop, Put in memory.
-/
import Derived.Test.YtfoafookodldfaaIdxG
import Derived.Test.YtfoafookodldfaaIdxU
namespace Go.Proofs.Ytfoafookodldfaa
set_option linter.unusedSimpArgs false
set_option linter.unusedVariables false
open Go.RowKit

def Prs (l : List PairI) : List (List Value) := l.map PairI.cells
theorem sl_prs {w : World} {v : Value} {l : List PairI} (h : Sl w 2 v (Prs l)) : ∃ A c, v = .slice A l.length c ∧ l.length ≤ c ∧ c ≤ maxLen ∧ (0 < l.length → ∃ b o, A = some ⟨b, o, none⟩ ∧ b < w.heap.size ∧ ∀ k (h : k < l.length), w.cell? ⟨b, o + k * 2, none⟩ = some (.string l[k].name) ∧ w.cell? ⟨b, o + k * 2 + 1, none⟩ = some (.int .i64 l[k].n)) := by
  obtain ⟨A, c, h1, h2, h3, h4⟩ := h
  simp only [Prs, List.length_map] at h1 h2 h4
  refine ⟨A, c, h1, h2, h3, fun hn => ?_⟩
  obtain ⟨b, o, h5, h6, h7⟩ := h4 hn
  refine ⟨b, o, h5, h6, fun k hk => ⟨?_, ?_⟩⟩
  · have := h7 k l[k].cells 0 _ (by simp [hk]) rfl
    simpa using this
  · have := h7 k l[k].cells 1 _ (by simp [hk]) rfl
    simpa using this
theorem rk_at {l : List PairI} (hs : Srt l) {s : ByteArray} {k : Nat} (hk : k < l.length) (hn : l[k].name = s) : rk s l = k ∧ hasK s l = true := by
  have e : rk s l = k := rk_eq hs (by omega) (fun j h hj => by rw [← hn]; exact srt_get hs hj hk) (fun j h hj => by
    rcases Nat.lt_or_ge k j with h' | h'
    · rw [← hn]; exact blt_asymm (srt_get hs h' h)
    · obtain rfl : j = k := by omega
      rw [hn]; exact blt_irrefl _)
  refine ⟨e, ?_⟩
  unfold hasK
  rw [e, List.getElem?_eq_getElem hk]
  simp [hn]
/-- Pairs in a row of their own. -/
def RowAt (B : Nat) (l : List PairI) (v : Value) (w : World) : Prop := ∃ A c, v = .slice A l.length c ∧ l.length ≤ c ∧ c ≤ maxLen ∧ (0 < l.length → ∃ b, A = some ⟨b, 0, none⟩ ∧ B ≤ b ∧ b < w.heap.size ∧ ∀ k (h : k < l.length), w.cell? ⟨b, k * 2, none⟩ = some (.string l[k].name) ∧ w.cell? ⟨b, k * 2 + 1, none⟩ = some (.int .i64 l[k].n)) ∧ (l.length = 0 → A = none ∧ c = 0)
theorem RowAt.ext {B : Nat} {l : List PairI} {v : Value} {w w' : World} (h : RowAt B l v w) (he : Ext w w') : RowAt B l v w' := by
  obtain ⟨A, c, h1, h2, h3, h4, h0⟩ := h
  refine ⟨A, c, h1, h2, h3, fun hp => ?_, h0⟩
  obtain ⟨b, h5, h6, h7, h8⟩ := h4 hp
  exact ⟨b, h5, h6, Nat.lt_of_lt_of_le h7 he.size, fun k hk => ⟨he.cell (h8 k hk).1, he.cell (h8 k hk).2⟩⟩
theorem RowAt.steady (B : Nat) (l : List PairI) (v : Value) : Steady (RowAt B l v) := fun _ _ he h => h.ext he
theorem RowAt.nil (B : Nat) (w : World) : RowAt B [] (.slice none 0 0) w := ⟨none, 0, rfl, Nat.le_refl _, by unfold maxLen; omega, fun h => absurd h (by simp), fun _ => ⟨rfl, rfl⟩⟩
theorem RowAt.of_row {B : Nat} {l : List PairI} {v : Value} {w : World} {e : TypeId} (h : w.ownsRow B e 2 v l.length (flatP l)) (hz : l.length = 0 → v = .slice none 0 0) : RowAt B l v w := by
  rcases h.2 with ⟨rfl, h0⟩ | ⟨g, cap, cur, rfl, hb, hg, h1, h2, h3, h4⟩
  · have : l = [] := List.eq_nil_of_length_eq_zero h0
    subst this
    exact RowAt.nil B w
  · have hb' : Blk w g e cur := hg
    refine ⟨_, cap, rfl, h1, h2, fun _ => ⟨g, rfl, hb, hb'.lt, fun k hk => ?_⟩, fun h => by cases hz h⟩
    obtain ⟨f0, f1⟩ := flatP_get l k hk
    rw [← h4, List.getElem?_take, if_pos (by omega)] at f0 f1
    exact ⟨hb'.cell (by simpa using f0), hb'.cell (by simpa using f1)⟩
theorem RowAt.of_own {B : Nat} {l : List PairI} {v : Value} {w : World} {e : TypeId} {n : Nat} (hn : n = l.length) (hp : 0 < l.length) (h : Own B e 2 n (flatP l) v w) : RowAt B l v w := by
  subst hn
  obtain ⟨_, _, g, cap, cs, h1, h2, h3, h4, h5, h6, h7⟩ := h
  exact RowAt.of_row (e := e) ⟨flatP_length l, .inr ⟨g, cap, cs, h1, h2, h3, h4, h5, h6, h7⟩⟩ (fun h => by omega)
theorem RowAt.mono {B B' : Nat} {l : List PairI} {v : Value} {w : World} (h : RowAt B l v w) (hb : B' ≤ B) : RowAt B' l v w := by
  obtain ⟨A, c, h1, h2, h3, h4, h0⟩ := h
  refine ⟨A, c, h1, h2, h3, fun hp => ?_, h0⟩
  obtain ⟨b, h5, h6, h7⟩ := h4 hp
  exact ⟨b, h5, Nat.le_trans hb h6, h7⟩

set_option maxRecDepth 100000 in
set_option maxHeartbeats 1000000 in
theorem rfind_c (w : World) (B : Nat) (v : Value) (l : List PairI) (s : ByteArray) (h : RowAt B l v w) (hs : Srt l) : Calls Try.prog 17 #[v, .string s] w (Ret (.int .i64 (rfindK s l)) w) := by
  obtain ⟨A, c, rfl, h1, h2, h3, _⟩ := h
  unfold maxLen at h2
  have R1 : Hid (∀ k (h : k < l.length), l[k].name = s → rfindK s l = k) := fun k hlt he => by
    obtain ⟨e1, e2⟩ := rk_at hs hlt he
    unfold rfindK
    rw [e1, e2]; rfl
  have R2 : Hid ((∀ p ∈ l, p.name ≠ s) → rfindK s l = -1) := fun hno => by
    have : hasK s l = false := by
      cases hn : hasK s l with
      | false => rfl
      | true =>
        obtain ⟨hr, hname⟩ := hasK_true hn
        exact absurd hname (hno _ (List.getElem_mem hr))
    unfold rfindK
    rw [this]; rfl
  generalize rfindK s l = z at R1 R2 ⊢
  clear hs
  go_enter Try.func17, Try.ntmps17
  go_wp2_with fail
  go_loopw [5] (fun i wr => ∃ k : Nat, k ≤ l.length ∧ i = .int .i64 k ∧ Ext w wr ∧ ∀ p ∈ l.take k, p.name ≠ s) (fun i _ => l.length - (intOf i).toNat)
  case atStart => exact ⟨0, by omega, rfl, Ext.refl _, fun p hp => by simp at hp⟩
  case round =>
    obtain ⟨k, hk, rfl, hE, hno⟩ := hrel
    by_cases hlt : k < l.length
    · obtain ⟨b, rfl, _, lb, hcell⟩ := h3 (by omega)
      have c0 := hE.cell (hcell k hlt).1
      have HE := hid hE
      have HNo := hid hno
      clear hcell h3 hE hno
      by_cases he : l[k].name = s
      · obtain rfl := R1.out k hlt he
        have hb : ((l[k].name).toList == s.toList) = true := by simp [he]
        go_wp2_with fail
        go_ret
        exact ⟨rfl, HE.out⟩
      · have hb : ((l[k].name).toList == s.toList) = false := by rw [beq_toList]; simp [he]
        go_wp2_with fail
        go_roundw
        case rel =>
          refine ⟨k + 1, by omega, by go_num, HE.out, fun p hp => ?_⟩
          rw [List.take_succ_eq_append_getElem hlt] at hp
          rcases List.mem_append.1 hp with hp | hp
          · exact HNo.out p hp
          · rw [List.mem_singleton.1 hp]; exact he
        case measure => simp [intOf]; omega
    · obtain rfl : k = l.length := by omega
      have HE := hid hE
      clear hE h3
      go_wp2_with fail
      go_ret
      rw [List.take_length] at hno
      obtain rfl := R2.out hno
      exact ⟨rfl, HE.out⟩

theorem rpair_info : (Try.prog.info? 43).map (fun i => (i.zero, i.size, i.bytes)) = some (some (.agg #[.string ⟨#[]⟩, .int .i64 0]), 2, 24) := by kernel_rfl
theorem rdropK_succ (s : ByteArray) (l : List PairI) (k : Nat) (h : k < l.length) : rdropK s (l.take (k + 1)) = if l[k].name = s then rdropK s (l.take k) else rdropK s (l.take k) ++ [l[k]] := by
  unfold rdropK
  rw [List.take_succ_eq_append_getElem h, List.filter_append]
  by_cases he : l[k].name = s
  · rw [if_pos he, List.filter_cons_of_neg (by simp [he])]; simp
  · rw [if_neg he, List.filter_cons_of_pos (by simp [he])]; simp
set_option maxRecDepth 100000 in
set_option maxHeartbeats 2000000 in
theorem rdrop_c (w : World) (B : Nat) (v : Value) (l : List PairI) (s : ByteArray) (h : RowAt B l v w) (hl : l.length ≤ 1000000) : Calls Try.prog 19 #[v, .string s] w (RetQ (RowAt w.heap.size (rdropK s l)) w) := by
  obtain ⟨A, c, rfl, h1, h2, h3, _⟩ := h
  obtain ⟨i0, hi0, hz0, hz1, hz2⟩ := info_parts rpair_info
  unfold maxLen at h2
  go_enter Try.func19, Try.ntmps19
  go_wp2_with fail
  go_loopw [5, 6] (fun v i wr => ∃ k : Nat, k ≤ l.length ∧ i = .int .i64 k ∧ Ext w wr ∧ (rdropK s (l.take k)).length ≤ k ∧ ((rdropK s (l.take k)).length = 0 → v = .slice none 0 0) ∧ wr.ownsRow w.heap.size 43 2 v (rdropK s (l.take k)).length (flatP (rdropK s (l.take k)))) (fun _ i _ => l.length - (intOf i).toNat)
  case atStart => exact ⟨0, by omega, rfl, Ext.refl _, Nat.le_refl _, (fun _ => rfl), ⟨rfl, .inl ⟨rfl, rfl⟩⟩⟩
  case round =>
    obtain ⟨k, hk, rfl, hE, hacc, hz, hown⟩ := hrel
    have HZ := hid hz
    clear hz
    by_cases hlt : k < l.length
    · obtain ⟨b, rfl, _, lb, hcell⟩ := h3 (by omega)
      have c0 := hE.cell (hcell k hlt).1
      have c1 := hE.cell (hcell k hlt).2
      have lb1 := Nat.lt_of_lt_of_le lb hE.size
      have HE := hid hE
      have HOwn := hid hown
      have HS := hid (rdropK_succ s l k hlt)
      clear hcell h3 hE hown
      by_cases he : l[k].name = s
      · have hb : ((l[k].name).toList == s.toList) = true := by simp [he]
        go_wp2_with fail
        go_roundw
        case rel => exact ⟨k + 1, by omega, by go_num, HE.out, by rw [HS.out, if_pos he]; omega, by rw [HS.out, if_pos he]; exact HZ.out, by rw [HS.out, if_pos he]; exact HOwn.out⟩
        case measure => simp [intOf]; omega
      · have hb : ((l[k].name).toList == s.toList) = false := by rw [beq_toList]; simp [he]
        have HS' : Hid (rdropK s (l.take (k + 1)) = rdropK s (l.take k) ++ [l[k]]) := by unfold Hid; rw [HS.out, if_neg he]
        clear HS
        generalize l[k] = p at c0 c1 hb HS' he
        generalize rdropK s (l.take k) = acc at HS' HOwn hacc HZ
        have hbs : w.heap.size ≤ (wr.alloc (.cells #[.string p.name, .int .i64 p.n] 43)).heap.size := by have := HE.out.size; simp; omega
        have O4 : Hid ((wr.alloc (.cells #[.string p.name, .int .i64 p.n] 43)).ownsRow w.heap.size 43 2 u5 acc.length (flatP acc)) := ownsRow_ext HOwn.out (Ext.alloc _ _)
        go_wp2_with (at_builtin; refine wpList_append_lies _ rfl (.tmp 20) (.tmp 25) _ rfl w.heap.size 43 i0 _ 2 24 Try.underlying33 hi0 hz0 hz1 hz2 rfl (by omega) u5 acc.length (flatP acc) rfl O4.out ⟨wr.heap.size, 0, none⟩ 1 1 [.string p.name, .int .i64 p.n] rfl rfl (World.news_of_block (cs := #[.string p.name, .int .i64 p.n]) (t := 43) (fr := (0, 0)) (heap_alloc_new wr _)) (by simp [Value.oneCell']) (by omega) (by unfold maxLen; omega) (by omega) hbs _ rfl ?_; intro g2 c2 w4 hown4 hgrow hat hlt4; have HB : Hid (Below w.heap.size w w4) := (HE.out.alloc' _).grown hgrow hbs (fun q hq => by rcases O4.out.2 with ⟨h, _⟩ | ⟨g', _, _, h, hb', _⟩ <;> rw [h] at hq <;> simp [Value.ownBlock] at hq; omega); have HO4 := hid hown4; clear hgrow hat hlt4 hown4)
        go_roundw
        case rel =>
          refine ⟨k + 1, by omega, by go_num, HB.out, by rw [HS'.out]; simp; omega, (fun h => by rw [HS'.out] at h; simp at h), ?_⟩
          rw [HS'.out, flatP_append, List.length_append]
          exact HO4.out
        case measure => simp [intOf]; omega
    · obtain rfl : k = l.length := by omega
      have HE := hid hE
      have HOwn := hid hown
      clear hE hown h3
      go_wp2_with fail
      go_ret
      rw [List.take_length] at HOwn HZ
      exact ⟨_, rfl, RowAt.of_row HOwn.out HZ.out, HE.out⟩
end Go.Proofs.Ytfoafookodldfaa
