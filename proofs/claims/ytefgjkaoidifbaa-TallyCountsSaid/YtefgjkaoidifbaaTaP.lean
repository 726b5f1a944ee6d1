/-
  Counts by kinds: what is gathered, and that there is one such list alone. Plain facts.
-/
import Derived.Test.YtefgjkaoidifbaaBase
namespace Go.Proofs.Ytefgjkaoidifbaa
set_option linter.unusedSimpArgs false
set_option linter.unusedVariables false

structure Cnt where
  kind : Int
  acts : Int
  errs : Int
  made : Int
def Cnt.cells (c : Cnt) : List Value := [.int .i64 c.kind, .int .i64 c.acts, .int .i64 c.errs, .int .i64 c.made]
def Cnt.val (c : Cnt) : Value := .agg #[.int .i64 c.kind, .int .i64 c.acts, .int .i64 c.errs, .int .i64 c.made]
instance : Inhabited Cnt := ⟨⟨0, 0, 0, 0⟩⟩
theorem Cnt.ext_ {a b : Cnt} (h1 : a.kind = b.kind) (h2 : a.acts = b.acts) (h3 : a.errs = b.errs) (h4 : a.made = b.made) : a = b := by cases a; cases b; simp_all
instance : DecidableEq Cnt := fun a b => if h : a.kind = b.kind ∧ a.acts = b.acts ∧ a.errs = b.errs ∧ a.made = b.made then isTrue (Cnt.ext_ h.1 h.2.1 h.2.2.1 h.2.2.2) else isFalse (by rintro rfl; exact h ⟨rfl, rfl, rfl, rfl⟩)
def addC (x y : Cnt) : Cnt := ⟨x.kind, x.acts + y.acts, x.errs + y.errs, x.made + y.made⟩
def tot (l : List Cnt) (k : Int) : Cnt := (l.filter fun x => decide (x.kind = k)).foldl addC ⟨k, 0, 0, 0⟩
def pres (l : List Cnt) (k : Int) : Prop := ∃ x ∈ l, x.kind = k
theorem tot_nil (k : Int) : tot [] k = ⟨k, 0, 0, 0⟩ := rfl
theorem tot_snoc (l : List Cnt) (x : Cnt) (k : Int) : tot (l ++ [x]) k = if x.kind = k then addC (tot l k) x else tot l k := by
  unfold tot
  rw [List.filter_append]
  by_cases h : x.kind = k
  · rw [if_pos h, List.filter_cons_of_pos (by simp [h]), List.foldl_append]; rfl
  · rw [if_neg h, List.filter_cons_of_neg (by simp [h])]; simp
theorem foldl_kind : ∀ (l : List Cnt) (c : Cnt), (l.foldl addC c).kind = c.kind
  | [], _ => rfl
  | x :: l, c => by rw [List.foldl_cons, foldl_kind]; rfl
theorem tot_kind (l : List Cnt) (k : Int) : (tot l k).kind = k := foldl_kind _ _
theorem tot_absent {l : List Cnt} {k : Int} (h : ¬ pres l k) : tot l k = ⟨k, 0, 0, 0⟩ := by
  have : l.filter (fun x => decide (x.kind = k)) = [] := List.filter_eq_nil_iff.2 fun x hx => by
    simp only [decide_eq_true_eq]
    exact fun e => h ⟨x, hx, e⟩
  unfold tot
  rw [this]
  rfl
theorem pres_snoc (l : List Cnt) (x : Cnt) (k : Int) : pres (l ++ [x]) k ↔ pres l k ∨ x.kind = k := by
  unfold pres
  constructor
  · rintro ⟨y, hy, e⟩
    rcases List.mem_append.1 hy with hy | hy
    · exact .inl ⟨y, hy, e⟩
    · rw [List.mem_singleton.1 hy] at e; exact .inr e
  · rintro (⟨y, hy, e⟩ | e)
    · exact ⟨y, List.mem_append_left _ hy, e⟩
    · exact ⟨x, by simp, e⟩
/-- Within bounds. -/
def Bd (B : Int) (c : Cnt) : Prop := -B ≤ c.acts ∧ c.acts ≤ B ∧ -B ≤ c.errs ∧ c.errs ≤ B ∧ -B ≤ c.made ∧ c.made ≤ B
theorem foldl_bd (B : Int) : ∀ (l : List Cnt) (c : Cnt) (C : Int), (∀ x ∈ l, Bd B x) → Bd C c → Bd (C + B * l.length) (l.foldl addC c)
  | [], c, C, _, hc => by simpa using hc
  | x :: l, c, C, h, hc => by
    have hx := h x (by simp)
    have := foldl_bd B l (addC c x) (C + B) (fun y hy => h y (by simp [hy])) (by unfold Bd addC at *; simp only; omega)
    rw [List.foldl_cons]
    have e : C + B + B * (l.length : Int) = C + B * ((x :: l).length : Int) := by
      rw [List.length_cons]
      push_cast
      rw [Int.mul_add]
      omega
    rwa [e] at this
theorem tot_bd {B : Int} {l : List Cnt} (hB : 0 ≤ B) (h : ∀ x ∈ l, Bd B x) (k : Int) : Bd (B * l.length) (tot l k) := by
  have h1 := foldl_bd B (l.filter fun x => decide (x.kind = k)) ⟨k, 0, 0, 0⟩ 0 (fun x hx => h x (List.mem_filter.1 hx).1) (by unfold Bd; simp)
  have h2 : ((l.filter fun x => decide (x.kind = k)).length : Int) ≤ l.length := by exact_mod_cast List.length_filter_le _ _
  have h3 : B * ((l.filter fun x => decide (x.kind = k)).length : Int) ≤ B * (l.length : Int) := Int.mul_le_mul_of_nonneg_left h2 hB
  unfold tot
  unfold Bd at *
  omega

structure IsG (l g : List Cnt) : Prop where
  srt : g.Pairwise fun a b => a.kind < b.kind
  mem : ∀ c, c ∈ g ↔ pres l c.kind ∧ c = tot l c.kind
theorem srtK_eq : ∀ {l m : List Cnt}, l.Pairwise (fun a b => a.kind < b.kind) → m.Pairwise (fun a b => a.kind < b.kind) → (∀ x, x ∈ l ↔ x ∈ m) → l = m
  | [], [], _, _, _ => rfl
  | [], y :: m, _, _, h => absurd ((h y).2 (by simp)) (by simp)
  | x :: l, [], _, _, h => absurd ((h x).1 (by simp)) (by simp)
  | x :: l, y :: m, hl, hm, h => by
    obtain ⟨hx, hl'⟩ := List.pairwise_cons.1 hl
    obtain ⟨hy, hm'⟩ := List.pairwise_cons.1 hm
    have hxy : x = y := by
      rcases List.mem_cons.1 ((h x).1 (by simp)) with e | e
      · exact e
      · rcases List.mem_cons.1 ((h y).2 (by simp)) with e2 | e2
        · exact e2.symm
        · have := hx y e2; have := hy x e; omega
    subst hxy
    rw [srtK_eq hl' hm' fun z => ?_]
    constructor
    · intro hz
      rcases List.mem_cons.1 ((h z).1 (by simp [hz])) with e | e
      · subst e; have := hx z hz; omega
      · exact e
    · intro hz
      rcases List.mem_cons.1 ((h z).2 (by simp [hz])) with e | e
      · subst e; have := hy z hz; omega
      · exact e
theorem isG_eq {l g g' : List Cnt} (h : IsG l g) (h' : IsG l g') : g = g' := srtK_eq h.srt h'.srt fun x => (h.mem x).trans (h'.mem x).symm
open Classical in
/-- What is gathered. -/
noncomputable def gat (l : List Cnt) : List Cnt := if h : ∃ g, IsG l g then Classical.choose h else []
theorem gat_is {l g : List Cnt} (h : IsG l g) : g = gat l := by
  have hex : ∃ g, IsG l g := ⟨g, h⟩
  unfold gat
  rw [dif_pos hex]
  exact isG_eq h (Classical.choose_spec hex)

/-- The document's Put. -/
def rankC (k : Int) : List Cnt → Nat
  | [] => 0
  | y :: l => if y.kind < k then rankC k l + 1 else 0
def putC (x : Cnt) (g : List Cnt) : List Cnt :=
  match g[rankC x.kind g]? with
  | some y => if y.kind = x.kind then g.take (rankC x.kind g) ++ [addC x y] ++ g.drop (rankC x.kind g + 1) else g.take (rankC x.kind g) ++ [x] ++ g.drop (rankC x.kind g)
  | none => g.take (rankC x.kind g) ++ [x] ++ g.drop (rankC x.kind g)
theorem rankC_le (k : Int) : ∀ l : List Cnt, rankC k l ≤ l.length
  | [] => Nat.le_refl _
  | y :: l => by
    unfold rankC
    split
    · have := rankC_le k l; simp; omega
    · simp
theorem rankC_lt (k : Int) : ∀ (l : List Cnt) (i : Nat) (h : i < l.length), i < rankC k l → l[i].kind < k
  | y :: l, i, h, hi => by
    unfold rankC at hi
    split at hi
    · rename_i hy
      cases i with
      | zero => exact hy
      | succ i => exact rankC_lt k l i (by simpa using h) (by omega)
    · omega
theorem rankC_at (k : Int) : ∀ (l : List Cnt) (h : rankC k l < l.length), ¬ l[rankC k l].kind < k
  | y :: l, h => by
    by_cases hy : y.kind < k
    · have e : rankC k (y :: l) = rankC k l + 1 := by simp [rankC, hy]
      have h' : rankC k l < l.length := by rw [e] at h; simpa using h
      have := rankC_at k l h'
      simp only [e, List.getElem_cons_succ]
      exact this
    · have e : rankC k (y :: l) = 0 := by simp [rankC, hy]
      simp only [e, List.getElem_cons_zero]
      exact hy
theorem putC_len (x : Cnt) (g : List Cnt) : (putC x g).length ≤ g.length + 1 := by
  have := rankC_le x.kind g
  unfold putC
  split
  · split <;> simp <;> omega
  · simp; omega
theorem rank_take {g : List Cnt} (k : Int) : ∀ z ∈ g.take (rankC k g), z.kind < k := by
  intro z hz
  obtain ⟨i, hi, rfl⟩ := List.getElem_of_mem hz
  rw [List.length_take] at hi
  rw [List.getElem_take]
  exact rankC_lt k g i (by omega) (by omega)
theorem rank_drop {g : List Cnt} (hg : g.Pairwise fun a b => a.kind < b.kind) (k : Int) : ∀ z ∈ g.drop (rankC k g), k ≤ z.kind := by
  intro z hz
  obtain ⟨i, hi, rfl⟩ := List.getElem_of_mem hz
  rw [List.length_drop] at hi
  rw [List.getElem_drop]
  have h0 := rankC_at k g (by omega)
  by_cases hi0 : i = 0
  · subst hi0; simp only [Nat.add_zero]; omega
  · have := List.pairwise_iff_getElem.1 hg (rankC k g) (rankC k g + i) (by omega) (by omega) (by omega)
    omega
theorem putC_isG {l g : List Cnt} (h : IsG l g) (x : Cnt) : IsG (l ++ [x]) (putC x g) := by
  have h1 := rank_take (g := g) x.kind
  have h2 := rank_drop h.srt x.kind
  have hr := rankC_le x.kind g
  have hsplit : ∀ z, z ∈ g ↔ z ∈ g.take (rankC x.kind g) ∨ z ∈ g.drop (rankC x.kind g) := fun z => by
    conv => lhs; rw [← List.take_append_drop (rankC x.kind g) g]
    exact List.mem_append
  have hs1 : (g.take (rankC x.kind g)).Pairwise fun a b => a.kind < b.kind := h.srt.sublist (List.take_sublist _ _)
  have hs2 : (g.drop (rankC x.kind g)).Pairwise fun a b => a.kind < b.kind := h.srt.sublist (List.drop_sublist _ _)
  have other : ∀ c : Cnt, c.kind ≠ x.kind → (c ∈ g ↔ pres (l ++ [x]) c.kind ∧ c = tot (l ++ [x]) c.kind) := fun c hc => by
    rw [h.mem, pres_snoc, tot_snoc, if_neg (fun e => hc e.symm)]
    constructor
    · rintro ⟨a, b⟩; exact ⟨.inl a, b⟩
    · rintro ⟨a | a, b⟩
      · exact ⟨a, b⟩
      · exact absurd a.symm hc
  by_cases hp : pres l x.kind
  · have hy := (h.mem (tot l x.kind)).2 (by rw [tot_kind]; exact ⟨hp, rfl⟩)
    have hyk := tot_kind l x.kind
    have hyd : tot l x.kind ∈ g.drop (rankC x.kind g) := by
      rcases (hsplit _).1 hy with h | h
      · have := h1 _ h; omega
      · exact h
    have hlt : rankC x.kind g < g.length := by
      obtain ⟨i, hi, _⟩ := List.getElem_of_mem hyd
      rw [List.length_drop] at hi
      omega
    have hd : g.drop (rankC x.kind g) = g[rankC x.kind g] :: g.drop (rankC x.kind g + 1) := List.drop_eq_getElem_cons hlt
    have hge : x.kind ≤ g[rankC x.kind g].kind := h2 _ (by rw [hd]; exact List.mem_cons_self)
    have he : g[rankC x.kind g] = tot l x.kind := by
      rw [hd] at hyd hs2
      rcases List.mem_cons.1 hyd with e | e
      · exact e.symm
      · have := (List.pairwise_cons.1 hs2).1 _ e
        omega
    have e : putC x g = g.take (rankC x.kind g) ++ [addC x (tot l x.kind)] ++ g.drop (rankC x.kind g + 1) := by
      unfold putC
      rw [List.getElem?_eq_getElem hlt, he]
      simp only [hyk, if_true]
    have hk : (addC x (tot l x.kind)).kind = x.kind := rfl
    rw [hd] at hs2
    obtain ⟨hs3, hs4⟩ := List.pairwise_cons.1 hs2
    rw [he] at hs3
    rw [e]
    refine ⟨List.pairwise_append.2 ⟨List.pairwise_append.2 ⟨hs1, List.pairwise_singleton _ _, fun a ha b hb => by rw [List.mem_singleton.1 hb, hk]; exact h1 a ha⟩, hs4, fun a ha b hb => ?_⟩, fun c => ?_⟩
    · have hb' := hs3 b hb
      rcases List.mem_append.1 ha with ha | ha
      · have := h1 a ha; omega
      · rw [List.mem_singleton.1 ha, hk]; omega
    · by_cases hc : c.kind = x.kind
      · rw [hc, pres_snoc, tot_snoc, if_pos rfl]
        have hadd : addC (tot l x.kind) x = addC x (tot l x.kind) := by
          unfold addC
          rw [hyk]
          simp only [Cnt.mk.injEq, true_and]
          omega
        rw [hadd]
        constructor
        · intro hm
          refine ⟨.inr rfl, ?_⟩
          rcases List.mem_append.1 hm with hm | hm
          · rcases List.mem_append.1 hm with hm | hm
            · have := h1 c hm; omega
            · exact List.mem_singleton.1 hm
          · have := hs3 c hm; omega
        · rintro ⟨_, rfl⟩
          simp
      · rw [← other c hc]
        constructor
        · intro hm
          rcases List.mem_append.1 hm with hm | hm
          · rcases List.mem_append.1 hm with hm | hm
            · exact (hsplit c).2 (.inl hm)
            · rw [List.mem_singleton.1 hm] at hc; exact absurd hk hc
          · exact (hsplit c).2 (.inr (by rw [hd]; exact List.mem_cons_of_mem _ hm))
        · intro hm
          rcases (hsplit c).1 hm with hm | hm
          · exact List.mem_append_left _ (List.mem_append_left _ hm)
          · rw [hd, he] at hm
            rcases List.mem_cons.1 hm with rfl | hm
            · exact absurd hyk hc
            · exact List.mem_append_right _ hm
  · have hno : ∀ z ∈ g, z.kind ≠ x.kind := fun z hz e => hp (by have := ((h.mem z).1 hz).1; rwa [e] at this)
    have e : putC x g = g.take (rankC x.kind g) ++ [x] ++ g.drop (rankC x.kind g) := by
      unfold putC
      split
      · rename_i y hy
        rw [if_neg (hno y (List.mem_of_getElem? hy))]
      · rfl
    rw [e]
    have h2' : ∀ z ∈ g.drop (rankC x.kind g), x.kind < z.kind := fun z hz => by
      have := h2 z hz
      have := hno z (List.mem_of_mem_drop hz)
      omega
    refine ⟨List.pairwise_append.2 ⟨List.pairwise_append.2 ⟨hs1, List.pairwise_singleton _ _, fun a ha b hb => by rw [List.mem_singleton.1 hb]; exact h1 a ha⟩, hs2, fun a ha b hb => ?_⟩, fun c => ?_⟩
    · have hb' := h2' b hb
      rcases List.mem_append.1 ha with ha | ha
      · have := h1 a ha; omega
      · rw [List.mem_singleton.1 ha]; exact hb'
    · by_cases hc : c.kind = x.kind
      · rw [hc, pres_snoc, tot_snoc, if_pos rfl, tot_absent hp]
        have hadd : addC ⟨x.kind, 0, 0, 0⟩ x = x := by unfold addC; simp
        rw [hadd]
        constructor
        · intro hm
          refine ⟨.inr rfl, ?_⟩
          rcases List.mem_append.1 hm with hm | hm
          · rcases List.mem_append.1 hm with hm | hm
            · have := h1 c hm; omega
            · exact List.mem_singleton.1 hm
          · have := h2' c hm; omega
        · rintro ⟨_, rfl⟩
          simp
      · rw [← other c hc]
        constructor
        · intro hm
          rcases List.mem_append.1 hm with hm | hm
          · rcases List.mem_append.1 hm with hm | hm
            · exact (hsplit c).2 (.inl hm)
            · rw [List.mem_singleton.1 hm] at hc; exact absurd rfl hc
          · exact (hsplit c).2 (.inr hm)
        · intro hm
          rcases (hsplit c).1 hm with hm | hm
          · exact List.mem_append_left _ (List.mem_append_left _ hm)
          · exact List.mem_append_right _ hm
theorem isG_nil : IsG [] [] := ⟨List.Pairwise.nil, fun c => by simp [pres]⟩
theorem gat_ex (l : List Cnt) : ∃ g, IsG l g ∧ g.length ≤ l.length := by
  have : ∀ k, k ≤ l.length → ∃ g, IsG (l.take k) g ∧ g.length ≤ k := by
    intro k
    induction k with
    | zero => intro _; exact ⟨[], by rw [List.take_zero]; exact isG_nil, by simp⟩
    | succ k ih =>
      intro hk
      obtain ⟨g, hg, hl⟩ := ih (by omega)
      have hs := putC_isG hg (l[k]'(by omega))
      rw [← List.take_succ_eq_append_getElem (by omega)] at hs
      exact ⟨_, hs, by have := putC_len (l[k]'(by omega)) g; omega⟩
  obtain ⟨g, h1, h2⟩ := this l.length (Nat.le_refl _)
  rw [List.take_length] at h1
  exact ⟨g, h1, h2⟩
theorem gat_isG (l : List Cnt) : IsG l (gat l) := by
  obtain ⟨g, h1, _⟩ := gat_ex l
  rw [← gat_is h1]
  exact h1
theorem gat_len (l : List Cnt) : (gat l).length ≤ l.length := by
  obtain ⟨g, h1, h2⟩ := gat_ex l
  rw [← gat_is h1]
  exact h2
theorem gat_snoc (l : List Cnt) (x : Cnt) : putC x (gat l) = gat (l ++ [x]) := gat_is (putC_isG (gat_isG l) x)
theorem gat_nil : gat [] = [] := (gat_is isG_nil).symm
end Go.Proofs.Ytefgjkaoidifbaa
