/-
  What is gathered, laws: of two parts; in whatever order; all acts together. Plain facts.
-/
import Derived.Test.YtefgjkaoidifbaaTaH
namespace Go.Proofs.Ytefgjkaoidifbaa
set_option linter.unusedSimpArgs false
set_option linter.unusedVariables false

def sumB (f : Cnt → Int) (l : List Cnt) : Int := (l.map f).sum
theorem sumB_append (f : Cnt → Int) (a b : List Cnt) : sumB f (a ++ b) = sumB f a + sumB f b := by simp [sumB]
theorem sumB_cons (f : Cnt → Int) (a : Cnt) (l : List Cnt) : sumB f (a :: l) = f a + sumB f l := rfl
theorem sumB_one (f : Cnt → Int) (a : Cnt) : sumB f [a] = f a := by simp [sumB]
theorem foldl_addC : ∀ (l : List Cnt) (c : Cnt), l.foldl addC c = ⟨c.kind, c.acts + sumB Cnt.acts l, c.errs + sumB Cnt.errs l, c.made + sumB Cnt.made l⟩
  | [], c => by simp [sumB]
  | x :: l, c => by
    rw [List.foldl_cons, foldl_addC l]
    simp only [addC, sumB, List.map_cons, List.sum_cons, Cnt.mk.injEq, true_and]
    omega
theorem tot_sum (l : List Cnt) (k : Int) : tot l k = ⟨k, sumB Cnt.acts (l.filter fun x => decide (x.kind = k)), sumB Cnt.errs (l.filter fun x => decide (x.kind = k)), sumB Cnt.made (l.filter fun x => decide (x.kind = k))⟩ := by
  unfold tot
  rw [foldl_addC]
  simp
theorem tot_append (a b : List Cnt) (k : Int) : tot (a ++ b) k = ⟨k, (tot a k).acts + (tot b k).acts, (tot a k).errs + (tot b k).errs, (tot a k).made + (tot b k).made⟩ := by
  simp only [tot_sum, List.filter_append, sumB_append]
theorem pres_append (a b : List Cnt) (k : Int) : pres (a ++ b) k ↔ pres a k ∨ pres b k := by
  unfold pres
  constructor
  · rintro ⟨x, hx, e⟩
    rcases List.mem_append.1 hx with h | h
    · exact .inl ⟨x, h, e⟩
    · exact .inr ⟨x, h, e⟩
  · rintro (⟨x, hx, e⟩ | ⟨x, hx, e⟩)
    · exact ⟨x, List.mem_append_left _ hx, e⟩
    · exact ⟨x, List.mem_append_right _ hx, e⟩
theorem gat_congr {a b : List Cnt} (hp : ∀ k, pres a k ↔ pres b k) (ht : ∀ k, tot a k = tot b k) : gat a = gat b :=
  gat_is ⟨(gat_isG a).srt, fun c => by rw [(gat_isG a).mem, hp, ht]⟩
theorem pres_gat (l : List Cnt) (k : Int) : pres (gat l) k ↔ pres l k := by
  constructor
  · rintro ⟨x, hx, rfl⟩
    exact (((gat_isG l).mem x).1 hx).1
  · intro h
    exact ⟨tot l k, ((gat_isG l).mem _).2 (by rw [tot_kind]; exact ⟨h, rfl⟩), tot_kind l k⟩
theorem single {g : List Cnt} (hg : g.Pairwise fun a b => a.kind < b.kind) (k : Int) (c : Cnt) (hc : c ∈ g) (hk : c.kind = k) : g.filter (fun x => decide (x.kind = k)) = [c] := by
  have hm : c ∈ g.filter (fun x => decide (x.kind = k)) := List.mem_filter.2 ⟨hc, by simpa using hk⟩
  have hp : (g.filter (fun x => decide (x.kind = k))).Pairwise fun a b => a.kind < b.kind := hg.sublist List.filter_sublist
  have ha : ∀ x ∈ g.filter (fun x => decide (x.kind = k)), x.kind = k := fun x hx => by simpa using (List.mem_filter.1 hx).2
  generalize g.filter (fun x => decide (x.kind = k)) = f at hm hp ha
  rcases f with _ | ⟨x, f⟩
  · cases hm
  · rcases f with _ | ⟨y, f⟩
    · rw [List.mem_singleton.1 hm]
    · have := (List.pairwise_cons.1 hp).1 y (by simp)
      have := ha x (by simp)
      have := ha y (by simp)
      omega
theorem tot_gat (l : List Cnt) (k : Int) : tot (gat l) k = tot l k := by
  by_cases h : pres l k
  · have hm : tot l k ∈ gat l := ((gat_isG l).mem _).2 (by rw [tot_kind]; exact ⟨h, rfl⟩)
    have hk := tot_kind l k
    rw [tot_sum (gat l), single (gat_isG l).srt k _ hm hk, sumB_one, sumB_one, sumB_one]
    generalize tot l k = c at hk
    subst hk
    rfl
  · rw [tot_absent h, tot_absent (fun h' => h ((pres_gat l k).1 h'))]
theorem gat_gat (a b : List Cnt) : gat (gat a ++ gat b) = gat (a ++ b) :=
  gat_congr (fun k => by rw [pres_append, pres_append, pres_gat, pres_gat]) (fun k => by rw [tot_append, tot_append, tot_gat, tot_gat])
theorem gat_swap (a b : List Cnt) : gat (gat b ++ gat a) = gat (a ++ b) :=
  gat_congr (fun k => by rw [pres_append, pres_append, pres_gat, pres_gat]; exact Or.comm) (fun k => by rw [tot_append, tot_append, tot_gat, tot_gat]; simp only [Cnt.mk.injEq, true_and]; omega)
theorem sum_put (x : Cnt) (g : List Cnt) : sumB Cnt.acts (putC x g) = sumB Cnt.acts g + x.acts := by
  have hs : ∀ n, sumB Cnt.acts g = sumB Cnt.acts (g.take n) + sumB Cnt.acts (g.drop n) := fun n => by rw [← sumB_append, List.take_append_drop]
  unfold putC
  split
  · rename_i y hy
    split
    · obtain ⟨hlt, rfl⟩ := List.getElem?_eq_some_iff.1 hy
      have hd := List.drop_eq_getElem_cons hlt
      have h := hs (rankC x.kind g)
      rw [hd] at h
      have e := sumB_cons Cnt.acts g[rankC x.kind g] (g.drop (rankC x.kind g + 1))
      rw [e] at h
      rw [sumB_append, sumB_append, sumB_one, h]
      simp only [addC]
      omega
    · rw [sumB_append, sumB_append, sumB_one, hs (rankC x.kind g)]
      omega
  · rw [sumB_append, sumB_append, sumB_one, hs (rankC x.kind g)]
    omega
theorem sum_gat (l : List Cnt) : ∀ k, k ≤ l.length → sumB Cnt.acts (gat (l.take k)) = sumB Cnt.acts (l.take k)
  | 0, _ => by rw [List.take_zero, gat_nil]
  | k + 1, h => by
    have := sum_gat l k (by omega)
    rw [List.take_succ_eq_append_getElem (by omega), ← gat_snoc, sum_put, this, sumB_append, sumB_one]
theorem sum_cnts : ∀ (l : List ActI) (r : List RepI), sumB Cnt.acts (cnts l r) = l.length
  | [], _ => rfl
  | a :: l, r => by
    have := sum_cnts l r.tail
    have e : (oneC a r.head?).acts = 1 := by cases r <;> rfl
    simp only [cnts, sumB, List.map_cons, List.sum_cons, List.length_cons] at this ⊢
    rw [this, e]
    push_cast
    omega
theorem all_acts (l : List ActI) (r : List RepI) : ((gat (cnts l r)).foldl addC ⟨0, 0, 0, 0⟩).acts = l.length := by
  have := sum_gat (cnts l r) (cnts l r).length (Nat.le_refl _)
  rw [List.take_length, sum_cnts] at this
  rw [foldl_addC, this]
  simp
theorem cnts_nil (l : List ActI) : cnts l [] = l.map fun a => oneC a none := by
  induction l with
  | nil => rfl
  | cons a l ih => simp only [cnts, List.head?_nil, List.tail_nil, List.map_cons, ih]
theorem cnts_split : ∀ (l : List ActI) (r : List RepI) (k : Nat), cnts l r = cnts (l.take k) (r.take k) ++ cnts (l.drop k) (r.drop k)
  | [], _, _ => by simp [cnts]
  | _ :: _, _, 0 => by simp [cnts]
  | a :: l, [], k + 1 => by
    have := cnts_split l [] k
    simp only [List.take_nil, List.drop_nil] at this
    simp only [List.take_succ_cons, List.drop_succ_cons, List.take_nil, List.drop_nil, cnts, List.tail_nil, List.cons_append]
    rw [← this]
  | a :: l, x :: r, k + 1 => by
    have := cnts_split l r k
    simp only [List.take_succ_cons, List.drop_succ_cons, cnts, List.head?_cons, List.tail_cons, List.cons_append]
    rw [← this]
theorem gat_kinds {l : List ActI} {r : List RepI} {c : Cnt} (h : c ∈ gat (cnts l r)) : ∃ a ∈ l, c.kind = a.kind := by
  obtain ⟨x, hx, e⟩ := (((gat_isG _).mem c).1 h).1
  obtain ⟨_, a, ha, e2⟩ := cnts_mem hx
  exact ⟨a, ha, by rw [← e, e2]⟩
theorem gat_one_bd {B : Int} {l : List Cnt} (hB : 0 ≤ B) (h : ∀ x ∈ l, Bd B x) : ∀ y ∈ gat l, Bd (B * l.length) y := fun y hy => by
  have := ((gat_isG l).mem y).1 hy
  rw [this.2]
  exact tot_bd hB h _
theorem gat_cnts {l : List ActI} {r : List RepI} (hl : l.length ≤ 100) {c : Cnt} (h : c ∈ gat (cnts l r)) : Bd 100 c := by
  have := gat_one_bd (B := 1) (by omega) (fun x hx => (cnts_mem hx).1) c h
  have := cnts_len l r
  unfold Bd at *
  omega
end Go.Proofs.Ytefgjkaoidifbaa
