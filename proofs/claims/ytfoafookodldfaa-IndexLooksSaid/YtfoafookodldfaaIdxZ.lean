/-
  lighteragelaw42.IndexDoes: an index beside the document's pairs.
-/
import Derived.Test.YtfoafookodldfaaIdxR
import Derived.Test.YtfoafookodldfaaIdxX
import Derived.Test.YtfoafookodldfaaIdxY
namespace Go.Proofs.Ytfoafookodldfaa
set_option linter.unusedSimpArgs false
set_option linter.unusedVariables false
open Go.RowKit

/-- An index and the document's pairs, all in memory that the law has made, nothing of the one in the other. -/
def Beside (w0 w : World) (g : Nat) (v : Value) (l : List PairI) : Prop := ∃ R, Mine w0.heap.size w g R l ∧ RowAt w0.heap.size l v w ∧ (∀ b n c, v = .slice (some ⟨b, 0, none⟩) n c → b ≠ g ∧ R ≠ some b) ∧ Ext w0 w
theorem Beside.later {w0 w : World} {g : Nat} {v : Value} {l : List PairI} (h : Beside w0 w g v l) : Ext w0 w := h.choose_spec.2.2.2
theorem Beside.row {w0 w : World} {g : Nat} {v : Value} {l : List PairI} (h : Beside w0 w g v l) : RowAt w0.heap.size l v w := h.choose_spec.2.1
theorem Beside.srt {w0 w : World} {g : Nat} {v : Value} {l : List PairI} (h : Beside w0 w g v l) : Srt l := h.choose_spec.1.srt
theorem Beside.ext {w0 w w' : World} {g : Nat} {v : Value} {l : List PairI} (h : Beside w0 w g v l) (he : Ext w w') : Beside w0 w' g v l := by
  obtain ⟨R, h1, h2, h3, h4⟩ := h
  exact ⟨R, ⟨h1.at_.ext he, h1.srt, h1.low⟩, h2.ext he, h3, h4.trans he⟩
theorem Beside.len {w0 w : World} {g : Nat} {v : Value} {l : List PairI} (h : Beside w0 w g v l) : Calls Try.prog 14 #[.pointer (some ⟨g, 0, none⟩)] w (fun e w' => e = .returned (.int .i64 l.length) ∧ w = w') := by
  obtain ⟨R, h1, _⟩ := h
  obtain ⟨A, c, hg, _⟩ := h1.at_.open_
  exact len_s w g _ _ _ hg
theorem Beside.at_ {w0 w : World} {g : Nat} {v : Value} {l : List PairI} (h : Beside w0 w g v l) (k : Nat) (hk : k < l.length) : Calls Try.prog 15 #[.pointer (some ⟨g, 0, none⟩), .int .i64 k] w (Ret (.tuple #[.string l[k].name, .int .i64 l[k].n, .bool true]) w) := by
  obtain ⟨R, h1, _⟩ := h
  have := at_c w g R l k h1.at_
  unfold atK at this
  rw [if_pos (by omega), Int.toNat_natCast, List.getElem?_eq_getElem hk] at this
  exact this
theorem Beside.rank {w0 w : World} {g : Nat} {v : Value} {l : List PairI} (h : Beside w0 w g v l) (hl : l.length ≤ 1000000) (k : Nat) (hk : k < l.length) : Calls Try.prog 21 #[.pointer (some ⟨g, 0, none⟩), .string l[k].name] w (Ret (.int .i64 k) w) := by
  obtain ⟨R, h1, _⟩ := h
  have := rank_c w g R l l[k].name h1.at_ hl h1.srt
  rw [(rk_at h1.srt hk rfl).1] at this
  exact this
theorem Beside.find {w0 w : World} {g : Nat} {v : Value} {l : List PairI} (h : Beside w0 w g v l) (s : ByteArray) : Calls Try.prog 17 #[v, .string s] w (Ret (.int .i64 (rfindK s l)) w) := rfind_c w _ v l s h.row h.srt

/-- Behind a call that has changed the index: the pairs are as they were. -/
theorem beside_done {w0 w w' : World} {g : Nat} {R : Option Nat} {v : Value} {l l' : List PairI} (h1 : Mine w0.heap.size w g R l) (h2 : RowAt w0.heap.size l v w) (h3 : ∀ b n c, v = .slice (some ⟨b, 0, none⟩) n c → b ≠ g ∧ R ≠ some b) (h4 : Ext w0 w) (hs : Srt l') (hd : PutDone g R w l' w') :
    ∃ R', Mine w0.heap.size w' g R' l' ∧ RowAt w0.heap.size l v w' ∧ Ext w0 w' := by
  obtain ⟨R', hI, hR, hK⟩ := hd
  refine ⟨R', ⟨hI, hs, h1.low.1, fun b hb => ?_⟩, ?_, ?_⟩
  · rcases hR with rfl | ⟨b2, rfl, h⟩
    · exact h1.low.2 b hb
    · injection hb with hb; subst hb; exact Nat.le_trans h4.size h
  · obtain ⟨A, c, rfl, k1, k2, k3, k4⟩ := h2
    refine ⟨A, c, rfl, k1, k2, fun hp => ?_, k4⟩
    obtain ⟨b, rfl, k5, k6, k7⟩ := k3 hp
    obtain ⟨n1, n2⟩ := h3 b _ _ rfl
    have hbk := hK.block b k6 (by rintro (rfl | h); exact n1 rfl; exact n2 h)
    have hcell : ∀ i, w'.cell? ⟨b, i, none⟩ = w.cell? ⟨b, i, none⟩ := fun i => by unfold World.cell?; simp only [hbk]
    exact ⟨b, rfl, k5, Nat.lt_of_lt_of_le k6 hK.size, fun k hk => ⟨(hcell _).trans (k7 k hk).1, (hcell _).trans (k7 k hk).2⟩⟩
  · refine Below.trans h4 (hK.below h4.size fun q hq => ?_)
    rcases hq with rfl | hq
    · exact h1.low.1
    · exact h1.low.2 q hq
/-- The index has changed, and then the pairs have, alike. -/
def Half (w0 w : World) (g : Nat) (v : Value) (l l' : List PairI) : Prop := ∃ R, Mine w0.heap.size w g R l' ∧ RowAt w0.heap.size l v w ∧ Srt l ∧ Ext w0 w
theorem Half.whole {w0 w w' : World} {g : Nat} {v v' : Value} {l l' : List PairI} (h : Half w0 w g v l l') (hv : RowAt w.heap.size l' v' w') (he : Ext w w') : Beside w0 w' g v' l' := by
  obtain ⟨R, h1, h2, h3, h4⟩ := h
  obtain ⟨lg, lR⟩ := h1.at_.lt
  refine ⟨R, ⟨h1.at_.ext he, h1.srt, h1.low⟩, hv.mono h4.size, fun b n c hb => ?_, h4.trans he⟩
  obtain ⟨A, c', e, _, _, k3, k4⟩ := hv
  rw [e] at hb
  injection hb with hA hn hc
  subst hA
  rcases Nat.eq_zero_or_pos l'.length with h0 | hp
  · cases (k4 h0).1
  · obtain ⟨b', e', k5, _⟩ := k3 hp
    injection e' with e'
    injection e' with e'
    subst e'
    exact ⟨by omega, fun e => by have := lR _ e; omega⟩
theorem Beside.put {w0 wr w : World} {g : Nat} {v : Value} {l : List PairI} (h0 : Beside w0 wr g v l) (he : Ext wr w) (hl : l.length < 1000000) (s : ByteArray) (k : Int) :
    Calls Try.prog 13 #[.pointer (some ⟨g, 0, none⟩), .string s, .int .i64 k] w (fun e w' => e = .returned (.bool !hasK s l) ∧ Half w0 w' g v l (putK s k l) ∧ ∀ b t cs, wr.heap.size ≤ b → Blk w b t cs → Blk w' b t cs) := by
  obtain ⟨R, h1, h2, h3, h4⟩ := h0
  obtain ⟨lg, lR⟩ := h1.at_.lt
  have h1' : Mine w0.heap.size w g R l := ⟨h1.at_.ext he, h1.srt, h1.low⟩
  refine (put_c w g R l s k h1'.at_ hl h1.srt).mono ?_
  rintro e w' ⟨he', hd⟩
  obtain ⟨R', a1, a2, a3⟩ := beside_done h1' (h2.ext he) h3 (h4.trans he) (putK_srt s k h1.srt) hd
  obtain ⟨_, _, _, hK⟩ := hd
  exact ⟨he', ⟨R', a1, a2, h1.srt, a3⟩, fun b t cs hb hbk => hbk.keep hK (by rintro (rfl | h); omega; have := lR _ h; omega)⟩
theorem Beside.drop {w0 wr w : World} {g : Nat} {v : Value} {l : List PairI} (h0 : Beside w0 wr g v l) (he : Ext wr w) (hl : l.length < 1000000) (s : ByteArray) :
    Calls Try.prog 18 #[.pointer (some ⟨g, 0, none⟩), .string s] w (fun e w' => e = .returned (.bool (hasK s l)) ∧ Half w0 w' g v l (dropK s l) ∧ ∀ b t cs, wr.heap.size ≤ b → Blk w b t cs → Blk w' b t cs) := by
  obtain ⟨R, h1, h2, h3, h4⟩ := h0
  obtain ⟨lg, lR⟩ := h1.at_.lt
  have h1' : Mine w0.heap.size w g R l := ⟨h1.at_.ext he, h1.srt, h1.low⟩
  refine (drop_c w g R l s h1'.at_ hl h1.srt).mono ?_
  rintro e w' ⟨he', hd⟩
  obtain ⟨R', a1, a2, a3⟩ := beside_done h1' (h2.ext he) h3 (h4.trans he) (dropK_srt s h1.srt) hd
  obtain ⟨_, _, _, hK⟩ := hd
  exact ⟨he', ⟨R', a1, a2, h1.srt, a3⟩, fun b t cs hb hbk => hbk.keep hK (by rintro (rfl | h); omega; have := lR _ h; omega)⟩
theorem Beside.form {w0 w : World} {g : Nat} {v : Value} {l : List PairI} (h : Beside w0 w g v l) : ∃ A c, v = .slice A l.length c := by
  obtain ⟨A, c, e, _⟩ := h.row
  exact ⟨A, c, e⟩
theorem Half.rput {w0 w : World} {g : Nat} {v : Value} {l l' : List PairI} (h : Half w0 w g v l l') (hl : l.length < 1000000) (s : ByteArray) (k : Int) (he : l' = putK s k l) :
    Calls Try.prog 16 #[v, .string s, .int .i64 k] w (fun e w' => ∃ A c, e = .returned (.slice A l'.length c) ∧ Beside w0 w' g (.slice A l'.length c) l') := by
  obtain ⟨R, h1, h2, h3, h4⟩ := id h
  refine (rput_c w _ v l s k h2 hl h3).mono ?_
  rintro e w' ⟨v', he', hv, hx⟩
  subst he
  have hB := h.whole hv hx
  obtain ⟨A, c, rfl⟩ := hB.form
  exact ⟨A, c, he', hB⟩
theorem Half.rdrop {w0 w : World} {g : Nat} {v : Value} {l l' : List PairI} (h : Half w0 w g v l l') (hl : l.length < 1000000) (s : ByteArray) (he : l' = dropK s l) :
    Calls Try.prog 19 #[v, .string s] w (fun e w' => ∃ A c, e = .returned (.slice A l'.length c) ∧ Beside w0 w' g (.slice A l'.length c) l') := by
  obtain ⟨R, h1, h2, h3, h4⟩ := id h
  refine (rdrop_c w _ v l s h2 (by omega)).mono ?_
  rintro e w' ⟨v', he', hv, hx⟩
  rw [rdropK_eq h3] at hv
  subst he
  have hB := h.whole hv hx
  obtain ⟨A, c, rfl⟩ := hB.form
  exact ⟨A, c, he', hB⟩
/-- Get, from a place. -/
def getV (s : ByteArray) (l : List PairI) : Value := match l[rk s l]? with | some p => if p.name = s then .tuple #[.int .i64 p.n, .bool true] else .tuple #[.int .i64 0, .bool false] | none => .tuple #[.int .i64 0, .bool false]
theorem Beside.get {w0 w : World} {g : Nat} {v : Value} {l : List PairI} (h : Beside w0 w g v l) (hl : l.length < 1000000) (s : ByteArray) : Calls Try.prog 20 #[.pointer (some ⟨g, 0, none⟩), .string s] w (Ret (getV s l) w) := by
  obtain ⟨R, h1, _⟩ := h
  exact get_c w g R l s h1.at_ (by omega) h1.srt
theorem getV_yes {s : ByteArray} {l : List PairI} (h : hasK s l = true) : ∃ hr : rk s l < l.length, getV s l = .tuple #[.int .i64 l[rk s l].n, .bool true] ∧ rfindK s l = (rk s l : Int) := by
  obtain ⟨hr, hname⟩ := hasK_true h
  refine ⟨hr, ?_, by unfold rfindK; rw [h]; rfl⟩
  unfold getV
  rw [List.getElem?_eq_getElem hr]
  simp [hname]
theorem getV_no {s : ByteArray} {l : List PairI} (h : hasK s l = false) : getV s l = .tuple #[.int .i64 0, .bool false] ∧ rfindK s l = -1 := by
  refine ⟨?_, by unfold rfindK; rw [h]; rfl⟩
  unfold getV
  unfold hasK at h
  cases hq : l[rk s l]? with
  | none => rfl
  | some p =>
    rw [hq] at h
    have : p.name ≠ s := by simpa using h
    simp [this]
theorem beside_new {w0 w1 w2 : World} {v d : Value} {l : List PairI} (hr : RowAt w0.heap.size l v w1) (hs : Srt l) (h1 : Ext w0 w1) (hn : NewIdx w1.heap.size l d w2) (h2 : Ext w1 w2) : ∃ g, d = .pointer (some ⟨g, 0, none⟩) ∧ Beside w0 w2 g v l := by
  obtain ⟨g, R, rfl, a1, a2, a3⟩ := hn
  refine ⟨g, rfl, R, ⟨a3, hs, Nat.le_trans h1.size a1, fun b hb => Nat.le_trans h1.size (a2 b hb)⟩, hr.ext h2, fun b n c hb => ?_, h1.trans h2⟩
  obtain ⟨A, c', e, _, _, k3, k4⟩ := hr
  rw [e] at hb
  injection hb with hA hn hc
  subst hA
  rcases Nat.eq_zero_or_pos l.length with h0 | hp
  · cases (k4 h0).1
  · obtain ⟨b', e', _, k6, _⟩ := k3 hp
    injection e' with e'
    injection e' with e'
    subst e'
    exact ⟨by omega, fun e => by have := a2 _ e; omega⟩
structure ActI where
  kind : Int
  n : Int
  s : ByteArray
def Acts (l : List ActI) : List (List Value) := l.map fun a => [.int .i64 a.kind, .int .i64 a.n, .string a.s]
theorem sl_act {w : World} {v : Value} {l : List ActI} (h : Sl w 3 v (Acts l)) : ∃ A c, v = .slice A l.length c ∧ l.length ≤ c ∧ c ≤ maxLen ∧ (0 < l.length → ∃ b o, A = some ⟨b, o, none⟩ ∧ b < w.heap.size ∧ ∀ k (h : k < l.length), w.cell? ⟨b, o + k * 3, none⟩ = some (.int .i64 l[k].kind) ∧ w.cell? ⟨b, o + k * 3 + 1, none⟩ = some (.int .i64 l[k].n) ∧ w.cell? ⟨b, o + k * 3 + 2, none⟩ = some (.string l[k].s)) := by
  obtain ⟨A, c, h1, h2, h3, h4⟩ := h
  simp only [Acts, List.length_map] at h1 h2 h4
  refine ⟨A, c, h1, h2, h3, fun hn => ?_⟩
  obtain ⟨b, o, h5, h6, h7⟩ := h4 hn
  refine ⟨b, o, h5, h6, fun k hk => ⟨?_, ?_, ?_⟩⟩
  · have := h7 k [.int .i64 l[k].kind, .int .i64 l[k].n, .string l[k].s] 0 _ (by simp [hk]) rfl
    simpa using this
  · have := h7 k [.int .i64 l[k].kind, .int .i64 l[k].n, .string l[k].s] 1 _ (by simp [hk]) rfl
    simpa using this
  · have := h7 k [.int .i64 l[k].kind, .int .i64 l[k].n, .string l[k].s] 2 _ (by simp [hk]) rfl
    simpa using this
theorem newUpTo_succ (names : List ByteArray) (k : Nat) (h : k < names.length) : newUpTo names (k + 1) = putK names[k] k (newUpTo names k) := by
  show putK (names.getD k ⟨#[]⟩) k (newUpTo names k) = _
  rw [List.getD_eq_getElem?_getD, List.getElem?_eq_getElem h]
  rfl
end Go.Proofs.Ytfoafookodldfaa
