/-
  Ways in a tree: plain laws (chapter 39).
  Ways in a tree: the document's answers, in plain words.
  slices.Index, slices.Contains of numbers; route.until.
  route.there.
  route.Up.
-/
import Derived.Test.YtjnjamhohnnefaaGreatDoorTrUk
namespace Go.Proofs.YtjnjamhohnnefaaGreatDoor
set_option linter.unusedSimpArgs false
set_option linter.unusedVariables false
open Go.RowKit Go.Sort

/-- So many steps up it is. -/
def Ht (up : List Int) (r : Int) (k : Nat) : Prop := climb up (up.length + 1) r = some k
theorem Ht.inj {up : List Int} {r : Int} {j k : Nat} (h : Ht up r j) (h' : Ht up r k) : j = k := by
  have := h.symm.trans h'
  injection this
theorem Ht.in {up : List Int} {r : Int} {k : Nat} (h : Ht up r k) : 1 ≤ r ∧ r ≤ up.length := climb_in h
theorem Ht.next {up : List Int} {r : Int} {k : Nat} (h : Ht up r (k + 1)) : Ht up (upAt up r) k := by
  rcases climb_next h with ⟨_, h0⟩ | ⟨j, hj, hc⟩
  · cases h0
  · injection hj with hj
    subst hj
    exact climb_add _ _ _ _ hc (by omega)
theorem Ht.root {up : List Int} {r : Int} (h : Ht up r 0) : upAt up r = 0 := by
  rcases climb_next h with ⟨h0, _⟩ | ⟨j, hj, _⟩
  · exact h0
  · cases hj
theorem Ht.up {up : List Int} {r : Int} {k : Nat} (h : Ht up r (k + 1)) : upAt up r ≠ 0 := fun h0 => by
  have := h.next.in
  omega
theorem Ht.lt {up : List Int} {r : Int} {k : Nat} (h : Ht up r k) : k ≤ up.length := by
  have := climb_lt _ _ _ h
  omega
/-- The way up. -/
def wayL (up : List Int) : Nat → Int → List Int
  | 0, r => [r]
  | k + 1, r => r :: wayL up k (upAt up r)
def upL (up : List Int) (r : Int) : List Int := match climb up (up.length + 1) r with | some k => wayL up k r | none => []
theorem upL_some {up : List Int} {r : Int} {k : Nat} (h : Ht up r k) : upL up r = wayL up k r := by unfold upL; rw [h]
theorem upL_none {up : List Int} {r : Int} (h : ¬ (1 ≤ r ∧ r ≤ up.length)) : upL up r = [] := by unfold upL; rw [climb_out h]
theorem wayL_len (up : List Int) : ∀ (k : Nat) (r : Int), (wayL up k r).length = k + 1
  | 0, _ => rfl
  | k + 1, r => by rw [wayL, List.length_cons, wayL_len up k]
theorem onWay_mem (up : List Int) : ∀ (k : Nat) (r a : Int), onWay up k r a = decide (a ∈ wayL up k r)
  | 0, r, a => by
    rw [onWay, wayL]
    by_cases h : r = a
    · subst h; simp
    · have h' : ¬ a = r := fun e => h e.symm
      simp [h, h']
  | k + 1, r, a => by
    rw [onWay, wayL, onWay_mem up k]
    by_cases h : r = a
    · subst h; simp
    · have h' : ¬ a = r := fun e => h e.symm
      simp [h, h']
theorem under_mem {up : List Int} {r a : Int} {k : Nat} (h : Ht up r k) : underB up r a = decide (a ∈ upL up r) := by
  rw [underB_some h, upL_some h, onWay_mem]
/-- Each one on the way, and where it stands. -/
theorem wayL_at (up : List Int) : ∀ (k : Nat) (r : Int), Ht up r k → ∀ i (h : i < (wayL up k r).length), Ht up (wayL up k r)[i] (k - i)
  | 0, r, hr, i, h => by
    have : i = 0 := by rw [wayL_len] at h; omega
    subst this
    exact hr
  | k + 1, r, hr, 0, h => hr
  | k + 1, r, hr, i + 1, h => by
    have := wayL_at up k (upAt up r) hr.next i (by rw [wayL_len] at h ⊢; omega)
    rw [Nat.add_sub_add_right]
    exact this
theorem wayL_step (up : List Int) : ∀ (k : Nat) (r : Int) (i : Nat) (h : i + 1 < (wayL up k r).length), (wayL up k r)[i + 1] = upAt up ((wayL up k r)[i]'(by omega))
  | 0, r, i, h => by rw [wayL_len] at h; omega
  | k + 1, r, 0, h => by
    have : ∀ k x, (wayL up k x)[0]? = some x := fun k x => by cases k <;> rfl
    have h1 := this k (upAt up r)
    rw [List.getElem?_eq_getElem (by rw [wayL_len]; omega)] at h1
    injection h1
  | k + 1, r, i + 1, h => wayL_step up k (upAt up r) i (by rw [wayL_len] at h ⊢; omega)
theorem wayL_head (up : List Int) (k : Nat) (r : Int) : (wayL up k r)[0]? = some r := by cases k <;> rfl
/-- What is on a way stands at just one place of it, and lower than what comes behind it. -/
theorem way_mem {up : List Int} {r x : Int} (h : x ∈ upL up r) : ∃ k j, Ht up r k ∧ Ht up x j ∧ j ≤ k ∧ (upL up r)[k - j]? = some x := by
  unfold upL at h ⊢
  cases hc : climb up (up.length + 1) r with
  | none => rw [hc] at h; cases h
  | some k =>
    rw [hc] at h
    obtain ⟨i, hi, rfl⟩ := List.mem_iff_getElem.1 h
    have hl := hi
    dsimp only at hl
    rw [wayL_len] at hl
    refine ⟨k, k - i, hc, wayL_at up k r hc i hi, by omega, ?_⟩
    dsimp only
    rw [show k - (k - i) = i by omega, List.getElem?_eq_getElem hi]
theorem upL_at {up : List Int} {r : Int} {k : Nat} (h : Ht up r k) (i : Nat) (hi : i < (upL up r).length) : Ht up (upL up r)[i] (k - i) := by
  have e := upL_some h
  have h1 : i < (wayL up k r).length := by rw [← e]; exact hi
  have h2 := wayL_at up k r h i h1
  have h3 : (upL up r)[i] = (wayL up k r)[i] := by congr 1
  rw [h3]; exact h2
theorem upL_len {up : List Int} {r : Int} {k : Nat} (h : Ht up r k) : (upL up r).length = k + 1 := by rw [upL_some h, wayL_len]
theorem upL_nodup (up : List Int) (r : Int) : (upL up r).Nodup := by
  cases hc : climb up (up.length + 1) r with
  | none => unfold upL; rw [hc]; exact List.nodup_nil
  | some k =>
    rw [List.Nodup, List.pairwise_iff_getElem]
    intro i j hi hj hij he
    have h1 := upL_at (k := k) hc i hi
    have h2 := upL_at (k := k) hc j hj
    rw [he] at h1
    have := h1.inj h2
    rw [upL_len (k := k) hc] at hi hj
    omega
theorem upL_in {up : List Int} {r x : Int} (h : x ∈ upL up r) : 1 ≤ x ∧ x ≤ up.length := by
  obtain ⟨_, j, _, hj, _⟩ := way_mem h
  exact hj.in
theorem upL_self {up : List Int} {r : Int} {k : Nat} (h : Ht up r k) : (upL up r)[0]? = some r := by rw [upL_some h]; exact wayL_head up k r
/-- Where two ways up meet. -/
def meetL (A B : List Int) : Int := (A.find? fun x => decide (x ∈ B)).getD 0
theorem root_one {up : List Int} {nF : Nat} (h : shapeB up nF = true) {x y : Int} (hx : 1 ≤ x ∧ x ≤ up.length) (hy : 1 ≤ y ∧ y ≤ up.length) (h1 : upAt up x = 0) (h2 : upAt up y = 0) : x = y := by
  have hl := root_count h
  have mx : x ∈ (nums up.length).filter fun r => upAt up r == 0 := List.mem_filter.2 ⟨mem_nums.2 hx, by simp [h1]⟩
  have my : y ∈ (nums up.length).filter fun r => upAt up r == 0 := List.mem_filter.2 ⟨mem_nums.2 hy, by simp [h2]⟩
  obtain ⟨z, hz⟩ := List.length_eq_one_iff.1 hl
  rw [hz] at mx my
  rw [List.mem_singleton.1 mx, List.mem_singleton.1 my]
/-- Two ways up, cut where they meet. -/
structure Cut (up A B : List Int) (m : Int) (P P' Q Q' : List Int) : Prop where
  a : A = P ++ m :: Q
  b : B = P' ++ m :: Q'
  p : ∀ x ∈ P, x ∉ B
  p' : ∀ x ∈ P', x ∉ A
theorem way_cut {up : List Int} {nF : Nat} (h : shapeB up nF = true) {a b : Int} {ka kb : Nat} (ha : Ht up a ka) (hb : Ht up b kb) : ∃ P P' Q Q', Cut up (upL up a) (upL up b) (meetL (upL up a) (upL up b)) P P' Q Q' := by
  have la := upL_len ha
  have lb := upL_len hb
  have e1 := upL_at ha ka (by omega)
  have e2 := upL_at hb kb (by omega)
  rw [Nat.sub_self] at e1 e2
  have hr : (upL up a)[ka]'(by omega) = (upL up b)[kb]'(by omega) := root_one h e1.in e2.in e1.root e2.root
  have hf : ((upL up a).find? fun x => decide (x ∈ upL up b)).isSome := by
    rw [List.find?_isSome]
    exact ⟨_, List.getElem_mem (by omega : ka < _), decide_eq_true (by rw [hr]; exact List.getElem_mem _)⟩
  obtain ⟨m, hm⟩ := Option.isSome_iff_exists.1 hf
  have hmm : meetL (upL up a) (upL up b) = m := by unfold meetL; rw [hm]; rfl
  rw [hmm]
  obtain ⟨hmb, P, Q, hA, hP⟩ := List.find?_eq_some_iff_append.1 hm
  have hmb := of_decide_eq_true hmb
  obtain ⟨P', Q', hB⟩ := List.append_of_mem hmb
  refine ⟨P, P', Q, Q', hA, hB, fun x hx hxb => ?_, fun x hx hxa => ?_⟩
  · have := hP x hx
    simp [hxb] at this
  · obtain ⟨i, hi, rfl⟩ := List.mem_iff_getElem.1 hx
    have hib : (upL up b)[i]? = some P'[i] := by rw [hB, List.getElem?_append_left hi, List.getElem?_eq_getElem hi]
    have hbm : (upL up b)[P'.length]? = some m := by rw [hB, List.getElem?_append_right (Nat.le_refl _), Nat.sub_self]; rfl
    have ham : (upL up a)[P.length]? = some m := by rw [hA, List.getElem?_append_right (Nat.le_refl _), Nat.sub_self]; rfl
    obtain ⟨b1, hb1⟩ := List.getElem?_eq_some_iff.1 hib
    obtain ⟨b2, hb2⟩ := List.getElem?_eq_some_iff.1 hbm
    obtain ⟨b3, hb3⟩ := List.getElem?_eq_some_iff.1 ham
    have g1 := upL_at hb i b1
    have g2 := upL_at hb P'.length b2
    have g3 := upL_at ha P.length b3
    rw [hb1] at g1
    rw [hb2] at g2
    rw [hb3] at g3
    obtain ⟨k', j, hk', hj, hjk, hat⟩ := way_mem hxa
    obtain rfl := hk'.inj ha
    obtain rfl := hj.inj g1
    have hgm := g2.inj g3
    have hmn : ¬ (k' - (kb - i) < P.length) := fun hlt => by
      rw [hA, List.getElem?_append_left hlt] at hat
      have := hP _ (List.mem_of_getElem? hat)
      have hin : P'[i] ∈ upL up b := List.mem_of_getElem? hib
      simp [hin] at this
    omega
theorem Cut.meet_mem {up A B P P' Q Q' : List Int} {m : Int} (h : Cut up A B m P P' Q Q') : m ∈ A ∧ m ∈ B := ⟨by rw [h.a]; simp, by rw [h.b]; simp⟩
theorem meetL_eq {up A B P P' Q Q' : List Int} {m : Int} (h : Cut up A B m P P' Q Q') : meetL A B = m ∧ meetL B A = m := by
  have hm := h.meet_mem
  constructor
  · have : A.find? (fun x => decide (x ∈ B)) = some m := List.find?_eq_some_iff_append.2 ⟨decide_eq_true hm.2, P, Q, h.a, fun x hx => by simp [h.p x hx]⟩
    unfold meetL; rw [this]; rfl
  · have : B.find? (fun x => decide (x ∈ A)) = some m := List.find?_eq_some_iff_append.2 ⟨decide_eq_true hm.1, P', Q', h.b, fun x hx => by simp [h.p' x hx]⟩
    unfold meetL; rw [this]; rfl
theorem Cut.swap {up A B P P' Q Q' : List Int} {m : Int} (h : Cut up A B m P P' Q Q') : Cut up B A m P' P Q' Q := ⟨h.b, h.a, h.p', h.p⟩
/-- A way up to one, without it. -/
def untilL (l : List Int) (e : Int) : List Int := l.takeWhile fun x => x != e
theorem until_cut {P Q : List Int} {m : Int} (h : m ∉ P) : untilL (P ++ m :: Q) m = P := by
  unfold untilL
  induction P with
  | nil => simp
  | cons x P ih =>
    have hx : (x != m) = true := by
      have : ¬ x = m := fun e => h (by simp [e])
      simp [this]
    rw [List.cons_append, List.takeWhile_cons, if_pos hx, ih fun hm => h (by simp [hm])]
theorem Cut.m_out {up A B P P' Q Q' : List Int} {m : Int} (h : Cut up A B m P P' Q Q') : m ∉ P ∧ m ∉ P' := ⟨fun hm => h.p m hm h.meet_mem.2, fun hm => h.p' m hm h.meet_mem.1⟩
/-- The way from one to another one. -/
def wayT (A B : List Int) : List Int := untilL A (meetL A B) ++ meetL A B :: (untilL B (meetL A B)).reverse
theorem wayT_cut {up A B P P' Q Q' : List Int} {m : Int} (h : Cut up A B m P P' Q Q') : wayT A B = P ++ m :: P'.reverse ∧ wayT B A = P' ++ m :: P.reverse := by
  have e1 : untilL A m = P := by rw [h.a]; exact until_cut h.m_out.1
  have e2 : untilL B m = P' := by rw [h.b]; exact until_cut h.m_out.2
  unfold wayT
  rw [(meetL_eq h).1, (meetL_eq h).2, e1, e2]
  exact ⟨rfl, rfl⟩
theorem wayT_rev {up A B P P' Q Q' : List Int} {m : Int} (h : Cut up A B m P P' Q Q') : wayT B A = (wayT A B).reverse := by
  rw [(wayT_cut h).1, (wayT_cut h).2]
  simp
/-- Nobody comes twice. -/
theorem wayT_nodup {up A B P P' Q Q' : List Int} {m : Int} (h : Cut up A B m P P' Q Q') (hA : A.Nodup) (hB : B.Nodup) : (wayT A B).Nodup := by
  rw [(wayT_cut h).1]
  have hA' := hA
  have hB' := hB
  rw [h.a] at hA'
  rw [h.b] at hB'
  rw [List.nodup_append] at hA' hB' ⊢
  have h2 := h.m_out
  refine ⟨hA'.1, ?_, fun x hx y hy => ?_⟩
  · rw [List.nodup_cons]
    exact ⟨by simpa using h2.2, (by unfold List.Nodup; rw [List.pairwise_reverse]; exact List.Pairwise.imp (fun h => Ne.symm h) hB'.1)⟩
  · rintro rfl
    rcases List.mem_cons.1 hy with rfl | hy
    · exact h2.1 hx
    · exact h.p x hx (by rw [h.b]; simp at hy; simp [hy])
end Go.Proofs.YtjnjamhohnnefaaGreatDoor
namespace Go.Proofs.YtjnjamhohnnefaaGreatDoor
set_option linter.unusedSimpArgs false
set_option linter.unusedVariables false
open Go.RowKit Go.Sort

/-- The document's way up: at most so many steps. -/
def refUp (up : List Int) : Nat → Int → List Int
  | 0, _ => []
  | n + 1, r => if 1 ≤ r ∧ r ≤ up.length then r :: refUp up n (upAt up r) else []
theorem refUp_zero (up : List Int) (n : Nat) : refUp up n 0 = [] := by
  cases n with
  | zero => rfl
  | succ n => rw [refUp, if_neg (by omega)]
theorem refUp_len (up : List Int) : ∀ (n : Nat) (r : Int), (refUp up n r).length ≤ n
  | 0, _ => Nat.le_refl _
  | n + 1, r => by
    rw [refUp]
    by_cases h : 1 ≤ r ∧ r ≤ up.length
    · rw [if_pos h, List.length_cons]
      have := refUp_len up n (upAt up r)
      omega
    · rw [if_neg h]; exact Nat.zero_le _
theorem refUp_way {up : List Int} : ∀ (k n : Nat) (r : Int), Ht up r k → k < n → refUp up n r = wayL up k r
  | 0, n + 1, r, h, _ => by rw [refUp, if_pos h.in, wayL, h.root, refUp_zero]
  | k + 1, n + 1, r, h, hn => by rw [refUp, if_pos h.in, wayL, refUp_way k n _ h.next (by omega)]
theorem refUp_upL {up : List Int} {nF : Nat} (h : shapeB up nF = true) (r : Int) : refUp up (up.length + 1) r = upL up r := by
  by_cases hr : 1 ≤ r ∧ r ≤ up.length
  · obtain ⟨k, hk⟩ := shape_climb h hr.1 hr.2
    have hk' : Ht up r k := hk
    rw [refUp_way k _ r hk' (by have := hk'.lt; omega), upL_some hk']
  · rw [upL_none hr, refUp, if_neg hr]
/-- The deepest one that both are under, so far. -/
def metB (up : List Int) (a b r : Int) : Bool := underB up a r && underB up b r
def meetStep (up : List Int) (a b : Int) (s : Int × Int) (r : Int) : Int × Int := if metB up a b r = true ∧ s.2 < stepsZ up r then (r, stepsZ up r) else s
def meetK (up : List Int) (a b : Int) (k : Nat) : Int × Int := ((nums up.length).take k).foldl (meetStep up a b) (0, -1)
theorem meetK_zero (up : List Int) (a b : Int) : meetK up a b 0 = (0, -1) := by unfold meetK; rw [List.take_zero]; rfl
theorem meetK_step {up : List Int} {a b : Int} {k : Nat} (h : k < up.length) : meetK up a b (k + 1) = meetStep up a b (meetK up a b k) ((k : Int) + 1) := by
  unfold meetK
  rw [nums_take h, List.foldl_append]; rfl
theorem meetK_inv (up : List Int) (a b : Int) : ∀ k, k ≤ up.length → ((meetK up a b k = (0, -1)) ∨ (metB up a b (meetK up a b k).1 = true ∧ (meetK up a b k).2 = stepsZ up (meetK up a b k).1)) ∧ ∀ r : Int, 1 ≤ r → r ≤ k → metB up a b r = true → stepsZ up r ≤ (meetK up a b k).2
  | 0, _ => ⟨.inl (meetK_zero up a b), fun r h1 h2 => by omega⟩
  | k + 1, h => by
    obtain ⟨i1, i2⟩ := meetK_inv up a b k (by omega)
    rw [meetK_step (by omega)]
    unfold meetStep
    by_cases hc : metB up a b ((k : Int) + 1) = true ∧ (meetK up a b k).2 < stepsZ up ((k : Int) + 1)
    · rw [if_pos hc]
      refine ⟨.inr ⟨hc.1, rfl⟩, fun r h1 h2 h3 => ?_⟩
      by_cases he : r = (k : Int) + 1
      · subst he; exact Int.le_refl _
      · have := i2 r h1 (by omega) h3
        exact Int.le_trans this (Int.le_of_lt hc.2)
    · rw [if_neg hc]
      refine ⟨i1, fun r h1 h2 h3 => ?_⟩
      by_cases he : r = (k : Int) + 1
      · subst he
        exact Int.not_lt.1 fun hlt => hc ⟨h3, hlt⟩
      · exact i2 r h1 (by omega) h3
theorem meet_ref {up : List Int} {nF : Nat} (h : shapeB up nF = true) {a b : Int} {ka kb : Nat} (ha : Ht up a ka) (hb : Ht up b kb) : (meetK up a b up.length).1 = meetL (upL up a) (upL up b) := by
  obtain ⟨P, P', Q, Q', hc⟩ := way_cut h ha hb
  obtain ⟨m, hm⟩ : ∃ m, m = meetL (upL up a) (upL up b) := ⟨_, rfl⟩
  rw [← hm] at hc ⊢
  obtain ⟨hmA, hmB⟩ := hc.meet_mem
  have hmet : ∀ r, metB up a b r = true ↔ r ∈ upL up a ∧ r ∈ upL up b := fun r => by
    unfold metB
    rw [under_mem ha, under_mem hb, Bool.and_eq_true, decide_eq_true_eq, decide_eq_true_eq]
  obtain ⟨i1, i2⟩ := meetK_inv up a b up.length (Nat.le_refl _)
  have hin := upL_in hmA
  have hge := i2 m hin.1 hin.2 ((hmet m).2 ⟨hmA, hmB⟩)
  obtain ⟨_, jm, hja, hjm, hjle, hatm⟩ := way_mem hmA
  obtain rfl := hja.inj ha
  have hsm : stepsZ up m = jm := stepsZ_some hjm
  rcases i1 with h0 | ⟨h1, h2⟩
  · rw [h0, hsm] at hge
    simp at hge
    omega
  · generalize (meetK up a b up.length).1 = x at *
    generalize (meetK up a b up.length).2 = d at *
    obtain ⟨hxA, hxB⟩ := (hmet x).1 h1
    obtain ⟨k2, jx, hk2, hjx, hxle, hatx⟩ := way_mem hxA
    obtain rfl := hk2.inj hja
    have hsx : stepsZ up x = jx := stepsZ_some hjx
    rw [hc.a] at hatx hatm
    have hpm : k2 - jm = P.length := by
      have e1 : (upL up a)[k2 - jm]? = some m := by rw [hc.a]; exact hatm
      have e2 : (upL up a)[P.length]? = some m := by rw [hc.a, List.getElem?_append_right (Nat.le_refl _), Nat.sub_self]; rfl
      obtain ⟨b1, f1⟩ := List.getElem?_eq_some_iff.1 e1
      obtain ⟨b2, f2⟩ := List.getElem?_eq_some_iff.1 e2
      have t1 := upL_at hja _ b1
      have t2 := upL_at hja _ b2
      rw [f1] at t1
      rw [f2] at t2
      have := t1.inj t2
      rw [upL_len hja] at b2
      omega
    have hxp : ¬ (k2 - jx < P.length) := fun hlt => by
      rw [List.getElem?_append_left hlt] at hatx
      exact hc.p x (List.mem_of_getElem? hatx) hxB
    have : jx = jm := by omega
    subst this
    rw [hpm] at hatx
    rw [List.getElem?_append_right (Nat.le_refl _), Nat.sub_self] at hatx
    injection hatx with hatx
    exact hatx.symm
/-- The way up, in a tree that may be. -/
noncomputable def upT (up : List Int) (Fl : List (List ClauseI)) (r : Int) : List Int := if checkT up Fl = 0 then upL up r else []
theorem upL_le (up : List Int) (r : Int) : (upL up r).length ≤ up.length + 1 := by
  cases hc : climb up (up.length + 1) r with
  | none => unfold upL; rw [hc]; exact Nat.zero_le _
  | some k =>
    have h : Ht up r k := hc
    rw [upL_len h]
    have := h.lt
    omega
theorem upT_len (up : List Int) (Fl : List (List ClauseI)) (r : Int) : (upT up Fl r).length ≤ up.length + 1 := by
  unfold upT
  by_cases h0 : checkT up Fl = 0
  · rw [if_pos h0]; exact upL_le up r
  · rw [if_neg h0]; exact Nat.zero_le _
theorem upT_yes {up : List Int} {Fl : List (List ClauseI)} (h : checkT up Fl = 0) (r : Int) : upT up Fl r = upL up r := if_pos h
noncomputable def meetT (up : List Int) (Fl : List (List ClauseI)) (a b : Int) : Int := meetL (upT up Fl a) (upT up Fl b)
/-- Is it a tree that may be, and are there both replicas? -/
noncomputable def rightT (up : List Int) (Fl : List (List ClauseI)) (a b : Int) : Bool := (checkT up Fl == 0) && (inT up.length a && inT up.length b)
theorem rightT_iff {up : List Int} {Fl : List (List ClauseI)} {a b : Int} : rightT up Fl a b = true ↔ checkT up Fl = 0 ∧ (1 ≤ a ∧ a ≤ up.length) ∧ (1 ≤ b ∧ b ≤ up.length) := by
  unfold rightT
  rw [Bool.and_eq_true, Bool.and_eq_true, inT_iff, inT_iff]
  simp
theorem upT_none {up : List Int} {Fl : List (List ClauseI)} {r : Int} (h : ¬ (checkT up Fl = 0 ∧ 1 ≤ r ∧ r ≤ up.length)) : upT up Fl r = [] := by
  unfold upT
  by_cases h0 : checkT up Fl = 0
  · rw [if_pos h0]
    exact upL_none fun hr => h ⟨h0, hr⟩
  · exact if_neg h0
theorem meetT_none {up : List Int} {Fl : List (List ClauseI)} {a b : Int} (h : rightT up Fl a b = false) : meetT up Fl a b = 0 := by
  have h' : ¬ (rightT up Fl a b = true) := by rw [h]; simp
  rw [rightT_iff] at h'
  by_cases hA : checkT up Fl = 0 ∧ 1 ≤ a ∧ a ≤ up.length
  · have hB : ¬ (checkT up Fl = 0 ∧ 1 ≤ b ∧ b ≤ up.length) := fun hB => h' ⟨hA.1, hA.2, hB.2⟩
    unfold meetT meetL
    rw [upT_none hB, List.find?_eq_none.2 (by simp)]
    rfl
  · unfold meetT meetL
    rw [upT_none hA]
    rfl
/-- Where two ways up meet: a place on each of them, and none ahead of it is on the other one. -/
structure MeetAt (up : List Int) (A B : List Int) (m : Int) (p q : Nat) : Prop where
  one : 1 ≤ m ∧ m ≤ up.length
  a : A[p]? = some m
  b : B[q]? = some m
  na : ∀ k, k < p → ∀ x, A[k]? = some x → x ∉ B
  nb : ∀ k, k < q → ∀ x, B[k]? = some x → x ∉ A
  ma : meetL A B = m
  ua : untilL A m = A.take p
  ub : untilL B m = B.take q
  w : wayT A B = A.take p ++ m :: (B.take q).reverse
theorem meet_at {up : List Int} {Fl : List (List ClauseI)} {a b : Int} (h : rightT up Fl a b = true) : ∃ ka kb m p q, Ht up a ka ∧ Ht up b kb ∧ upT up Fl a = upL up a ∧ upT up Fl b = upL up b ∧ meetT up Fl a b = m ∧ MeetAt up (upL up a) (upL up b) m p q ∧ (meetK up a b up.length).1 = m ∧ wayT (upL up b) (upL up a) = (wayT (upL up a) (upL up b)).reverse ∧ (wayT (upL up a) (upL up b)).Nodup := by
  obtain ⟨h0, hA, hB⟩ := rightT_iff.1 h
  have hs := (check_zero h0).2.1
  obtain ⟨ka, hka⟩ := shape_climb hs hA.1 hA.2
  obtain ⟨kb, hkb⟩ := shape_climb hs hB.1 hB.2
  have ha : Ht up a ka := hka
  have hb : Ht up b kb := hkb
  obtain ⟨P, P', Q, Q', hc⟩ := way_cut hs ha hb
  have hmr := meet_ref hs ha hb
  obtain ⟨m, hm⟩ : ∃ m, m = meetL (upL up a) (upL up b) := ⟨_, rfl⟩
  rw [← hm] at hc hmr
  have e1 : untilL (upL up a) m = P := by rw [hc.a]; exact until_cut hc.m_out.1
  have e2 : untilL (upL up b) m = P' := by rw [hc.b]; exact until_cut hc.m_out.2
  have hrev := wayT_rev hc
  have hnd := wayT_nodup hc (upL_nodup up a) (upL_nodup up b)
  have hw := (wayT_cut hc).1
  have hmm := (meetL_eq hc).1
  have hin := upL_in hc.meet_mem.1
  have tP : (upL up a).take P.length = P := by rw [hc.a, List.take_left']; rfl
  have tP' : (upL up b).take P'.length = P' := by rw [hc.b, List.take_left']; rfl
  refine ⟨ka, kb, m, P.length, P'.length, ha, hb, upT_yes h0 a, upT_yes h0 b, by unfold meetT; rw [upT_yes h0, upT_yes h0, hmm], ⟨hin, ?_, ?_, fun k hk x hx => ?_, fun k hk x hx => ?_, hmm, by rw [tP]; exact e1, by rw [tP']; exact e2, by rw [tP, tP']; exact hw⟩, hmr, hrev, hnd⟩
  · rw [hc.a, List.getElem?_append_right (Nat.le_refl _), Nat.sub_self]; rfl
  · rw [hc.b, List.getElem?_append_right (Nat.le_refl _), Nat.sub_self]; rfl
  · rw [hc.a, List.getElem?_append_left hk] at hx
    exact hc.p x (List.mem_of_getElem? hx)
  · rw [hc.b, List.getElem?_append_left hk] at hx
    exact hc.p' x (List.mem_of_getElem? hx)
end Go.Proofs.YtjnjamhohnnefaaGreatDoor
namespace Go.Proofs.YtjnjamhohnnefaaGreatDoor
set_option linter.unusedSimpArgs false
set_option linter.unusedVariables false
open Go.RowKit Go.Sort

/-- Where a number stands; -1: nowhere. -/
def idxZ (l : List Int) (x : Int) : Int := if x ∈ l then ((untilL l x).length : Int) else -1
theorem idx_at {l : List Int} {x : Int} {k : Nat} (h : l[k]? = some x) (hn : x ∉ l.take k) : x ∈ l ∧ (untilL l x).length = k := by
  obtain ⟨hk, he⟩ := List.getElem?_eq_some_iff.1 h
  have e : l = l.take k ++ x :: l.drop (k + 1) := by rw [← he, List.getElem_cons_drop, List.take_append_drop]
  refine ⟨List.mem_of_getElem? h, ?_⟩
  have := until_cut (Q := l.drop (k + 1)) hn
  rw [← e] at this
  rw [this, List.length_take]
  omega
theorem not_take {l : List Int} {x : Int} {k : Nat} (h : k < l.length) (hn : x ∉ l.take k) (he : l[k] ≠ x) : x ∉ l.take (k + 1) := by
  rw [List.take_succ_eq_append_getElem h]
  intro hx
  rcases List.mem_append.1 hx with h1 | h1
  · exact hn h1
  · exact he (List.mem_singleton.1 h1).symm
set_option maxRecDepth 100000 in
set_option maxHeartbeats 1000000 in
theorem idx_c (w : World) (v : Value) (l : List Int) (x : Int) (h : Sl w 1 v (Ints l)) : Calls Tryz.prog 68 #[v, .int .i64 x] w (Ret (.int .i64 (idxZ l x)) w) := by
  obtain ⟨A, c, rfl, h1, h2, h3⟩ := h
  simp only [Ints, List.length_map] at h1 h3 ⊢
  unfold maxLen at h2
  have HAt : Hid (∀ k, l[k]? = some x → x ∉ l.take k → idxZ l x = k) := fun k h1 h2 => by
    obtain ⟨e1, e2⟩ := idx_at h1 h2
    unfold idxZ; rw [if_pos e1, e2]
  have HNo : Hid (x ∉ l → idxZ l x = -1) := fun h => by unfold idxZ; rw [if_neg h]
  generalize idxZ l x = r at HAt HNo ⊢
  go_enter Tryz.func68, Tryz.ntmps68
  go_wp2_with fail
  go_loopw [8] (fun i wr => ∃ k : Nat, k ≤ l.length ∧ i = .int .i64 k ∧ Hid (x ∉ l.take k) ∧ Ext w wr) (fun i _ => l.length - (intOf i).toNat)
  case atStart => exact ⟨0, by omega, rfl, by unfold Hid; simp, Ext.refl _⟩
  case round =>
    obtain ⟨k, hk, rfl, hn, hE⟩ := hrel
    have HE := hid hE
    by_cases hlt : k < l.length
    · obtain ⟨b, o, rfl, lb, hcell⟩ := h3 (by omega)
      have c0 := hE.cell (hcell k [.int .i64 l[k]] 0 (.int .i64 l[k]) (by simp [hlt]) rfl)
      simp only [Nat.mul_one, Nat.add_zero] at c0
      have lbr := Nat.lt_of_lt_of_le lb hE.size
      have HR := hid (HAt.out k)
      have HN := hid (fun he => not_take hlt hn.out he)
      rw [List.getElem?_eq_getElem hlt] at HR
      clear hcell h3 hE HAt HNo
      generalize l[k] = z at c0 HR HN
      by_cases he : z = x
      · subst he
        have hr : Hid (r = k) := HR.out rfl hn.out
        have d0 : (z == z) = true := by simp
        clear HR HN
        go_wp2_with fail
        go_ret
        exact ⟨by rw [hr.out]; rfl, HE.out⟩
      · have d0 : (x == z) = false := by simp; exact fun h => he h.symm
        have HN := hid (HN.out he)
        clear HR he
        go_wp2_with fail
        go_roundw
        case rel => exact ⟨k + 1, by omega, by go_num, HN.out, HE.out⟩
        case measure => simp [intOf]; omega
    · obtain rfl : k = l.length := by omega
      have hr : Hid (r = -1) := HNo.out (by have := hn.out; rwa [List.take_length] at this)
      clear hE h3 HAt HNo
      go_wp2_with fail
      go_ret
      exact ⟨by rw [hr.out]; rfl, HE.out⟩
set_option maxRecDepth 100000 in
set_option maxHeartbeats 1000000 in
theorem contains_c (w : World) (v : Value) (l : List Int) (x : Int) (h : Sl w 1 v (Ints l)) : Calls Tryz.prog 57 #[v, .int .i64 x] w (Ret (.bool (decide (x ∈ l))) w) := by
  have HI := hid (idx_c w v l x h)
  obtain ⟨A, c, rfl, h1, h2, h3⟩ := h
  simp only [Ints, List.length_map] at h1 h3 ⊢
  unfold maxLen at h2
  simp only [Ints, List.length_map] at HI
  by_cases hx : x ∈ l
  · have e : idxZ l x = ((untilL l x).length : Int) := by unfold idxZ; rw [if_pos hx]
    rw [e] at HI
    rw [decide_eq_true hx]
    clear e hx h3
    generalize (untilL l x).length = n at HI
    have d0 : decide ((0 : Int) ≤ (n : Int)) = true := decide_eq_true (by omega)
    go_enter Tryz.func57, Tryz.ntmps57
    go_wp2_with fail
    refine (HI.out).mono ?_
    rintro e w1 ⟨rfl, x1⟩
    go_wp2_with fail
    go_ret
    exact ⟨rfl, x1⟩
  · have e : idxZ l x = -1 := by unfold idxZ; rw [if_neg hx]
    rw [e] at HI
    rw [decide_eq_false hx]
    clear e hx h3
    go_enter Tryz.func57, Tryz.ntmps57
    go_wp2_with fail
    refine (HI.out).mono ?_
    rintro e w1 ⟨rfl, x1⟩
    go_wp2_with fail
    go_ret
    exact ⟨rfl, x1⟩
theorem until_le (l : List Int) (x : Int) : (untilL l x).length ≤ l.length := by
  unfold untilL
  exact (List.takeWhile_sublist _).length_le
set_option maxRecDepth 100000 in
set_option maxHeartbeats 1000000 in
theorem until_c (w : World) (b o c : Nat) (l : List Int) (x : Int) (h : Sl w 1 (.slice (some ⟨b, o, none⟩) l.length c) (Ints l)) (hx : x ∈ l) : Calls Tryz.prog 55 #[.slice (some ⟨b, o, none⟩) l.length c, .int .i64 x] w (Ret (.slice (some ⟨b, o, none⟩) (untilL l x).length c) w) := by
  have HI := hid (idx_c w _ l x h)
  have e : idxZ l x = ((untilL l x).length : Int) := by unfold idxZ; rw [if_pos hx]
  have hle := until_le l x
  obtain ⟨A, c', hv, h1, h2, _⟩ := h
  injection hv with hA hn hc
  subst hc
  simp only [Ints, List.length_map] at h1
  unfold maxLen at h2
  rw [e] at HI
  clear e hx hA hn
  generalize (untilL l x).length = n at HI hle ⊢
  go_enter Tryz.func55, Tryz.ntmps55
  go_wp2_with fail
  refine (HI.out).mono ?_
  rintro e w1 ⟨rfl, x1⟩
  have X1 := hid x1
  have hm : max (n : Int) 0 = (n : Int) := by omega
  clear x1
  go_wp2_with fail
  go_ret
  exact ⟨by simp, X1.out⟩
end Go.Proofs.YtjnjamhohnnefaaGreatDoor
namespace Go.Proofs.YtjnjamhohnnefaaGreatDoor
set_option linter.unusedSimpArgs false
set_option linter.unusedVariables false
open Go.RowKit Go.Sort

set_option maxRecDepth 100000 in
set_option maxHeartbeats 4000000 in
theorem there39_c (w : World) (up : List Int) (Fl : List (List ClauseI)) (A AF : Option Addr) (c cF : Nat) (r : Int) (q : Nat) (h : TreeAt w up Fl A AF c cF) (hq : Blk w q 3 #[.int .i64 r]) : Calls Tryz.prog 58 #[.agg #[.slice A up.length c, .slice AF Fl.length cF], .slice (some ⟨q, 0, none⟩) 1 1] w (Ret (.bool (inT up.length r && (checkT up Fl == 0))) w) := by
  have HE0 := hid (Ext.alloc w (.cells #[.slice A up.length c, .slice AF Fl.length cF] 25))
  have HB0 := hid (Blk.new w 25 #[.slice A up.length c, .slice AF Fl.length cF])
  obtain ⟨m, hm⟩ := h.m
  have HCk := fun W (hW : Ext w W) => hid (check_c W up Fl A AF c cF m (hW.cell hm) (h.u.ext hW) h.l (h.f.ext hW) h.L)
  have hl := h.l
  obtain ⟨h1, h2⟩ := h.cap
  unfold maxLen at h2
  have HQ := hid hq
  clear hm h hq
  generalize checkT up Fl = ck at HCk ⊢
  by_cases hin : inT up.length r = true
  · have hin' := inT_iff.1 hin
    rw [hin, Bool.true_and]
    have d1 : decide (r < 1) = false := decide_eq_false (by omega)
    have d2 : decide ((up.length : Int) < r) = false := decide_eq_false (by omega)
    clear hin
    go_enter Tryz.func58, Tryz.ntmps58
    go_wp2_with fail
    generalize w.alloc (.cells #[.slice A up.length c, .slice AF Fl.length cF] 25) = w0 at HE0 HB0 ⊢
    generalize w.heap.size = g at HB0 ⊢
    have z0 := HB0.out.cell (i := 0) (v := .slice A up.length c) rfl
    have z1 := HB0.out.cell (i := 1) (v := .slice AF Fl.length cF) rfl
    have zl := HB0.out.lt
    have hq := HQ.out.ext HE0.out
    have q0 := hq.cell (i := 0) (v := .int .i64 r) rfl
    have ql := hq.lt
    clear hq HQ
    go_loopw [9] (fun i wr => (i = .int .i64 0 ∨ i = .int .i64 1) ∧ wr = w0) (fun i _ => 1 - (intOf i).toNat)
    case atStart => exact ⟨.inl rfl, rfl⟩
    case round =>
      obtain ⟨hi, rfl⟩ := hrel
      rcases hi with rfl | rfl
      · go_wp2_with fail
        go_roundw
        case rel => first | exact ⟨.inr rfl, rfl⟩ | exact ⟨.inr rfl, trivial⟩ | simp
        case measure => simp [intOf]
      · clear hin' d1 d2 q0 ql
        go_wp2_with fail
        refine ((HCk _ HE0.out).out).mono ?_
        rintro e w1 ⟨rfl, x1⟩
        have X1 := hid (HE0.out.trans x1)
        clear x1 HCk HB0 z0 z1 zl
        go_wp2_with fail
        go_ret
        exact ⟨rfl, X1.out⟩
  · have hin0 : inT up.length r = false := by simpa using hin
    rw [hin0, Bool.false_and]
    have hno : ¬ (1 ≤ r ∧ r ≤ up.length) := fun h => hin (inT_iff.2 h)
    clear HCk
    by_cases hr1 : r < 1
    · have d1 : decide (r < 1) = true := decide_eq_true hr1
      clear hno hin hin0 hr1
      go_enter Tryz.func58, Tryz.ntmps58
      go_wp2_with fail
      generalize w.alloc (.cells #[.slice A up.length c, .slice AF Fl.length cF] 25) = w0 at HE0 HB0 ⊢
      generalize w.heap.size = g at HB0 ⊢
      have hq := HQ.out.ext HE0.out
      have q0 := hq.cell (i := 0) (v := .int .i64 r) rfl
      have ql := hq.lt
      clear hq HQ
      go_loopw [9] (fun i wr => i = .int .i64 0 ∧ wr = w0) (fun _ _ => 0)
      case atStart => exact ⟨rfl, rfl⟩
      case round =>
        obtain ⟨rfl, rfl⟩ := hrel
        go_wp2_with fail
        go_ret
        exact ⟨rfl, HE0.out⟩
    · have d1 : decide (r < 1) = false := decide_eq_false hr1
      have d2 : decide ((up.length : Int) < r) = true := decide_eq_true (by omega)
      clear hno hin hin0 hr1
      go_enter Tryz.func58, Tryz.ntmps58
      go_wp2_with fail
      generalize w.alloc (.cells #[.slice A up.length c, .slice AF Fl.length cF] 25) = w0 at HE0 HB0 ⊢
      generalize w.heap.size = g at HB0 ⊢
      have z0 := HB0.out.cell (i := 0) (v := .slice A up.length c) rfl
      have zl := HB0.out.lt
      have hq := HQ.out.ext HE0.out
      have q0 := hq.cell (i := 0) (v := .int .i64 r) rfl
      have ql := hq.lt
      clear hq HQ
      go_loopw [9] (fun i wr => i = .int .i64 0 ∧ wr = w0) (fun _ _ => 0)
      case atStart => exact ⟨rfl, rfl⟩
      case round =>
        obtain ⟨rfl, rfl⟩ := hrel
        go_wp2_with fail
        go_ret
        exact ⟨rfl, HE0.out⟩
end Go.Proofs.YtjnjamhohnnefaaGreatDoor
namespace Go.Proofs.YtjnjamhohnnefaaGreatDoor
set_option linter.unusedSimpArgs false
set_option linter.unusedVariables false
open Go.RowKit Go.Sort

/-- How many elements a slice has. -/
def lenV : Value → Nat
  | .slice _ n _ => n
  | _ => 0
/-- A row of numbers of one's own, made since. -/
def OwnI (l : List Int) (B : Nat) (v : Value) (w : World) : Prop := (l.length = 0 → v = .slice none 0 0) ∧ w.ownsRow B 3 1 v l.length (l.map intC).flatten
theorem OwnI.sl {l : List Int} {B : Nat} {v : Value} {w : World} (h : OwnI l B v w) : Sl w 1 v (Ints l) := by
  have := sl_of_row (xs := l.map intC) (int_coded.sizes _) (by rw [List.length_map]; exact h.2)
  exact this
theorem OwnI.ext {l : List Int} {B : Nat} {v : Value} {w w' : World} (h : OwnI l B v w) (he : Ext w w') : OwnI l B v w' := ⟨h.1, ownsRow_ext h.2 he⟩
theorem OwnI.len {l : List Int} {B : Nat} {v : Value} {w : World} (h : OwnI l B v w) : lenV v = l.length := by
  rcases h.2.2 with ⟨rfl, h0⟩ | ⟨g, cap, cs, rfl, _⟩
  · rw [h0]; rfl
  · rfl
theorem OwnI.weak {l : List Int} {B B' : Nat} {v : Value} {w : World} (h : OwnI l B v w) (hB : B' ≤ B) : OwnI l B' v w := ⟨h.1, row_weak h.2 hB⟩
theorem OwnI.nil (B : Nat) (w : World) : OwnI [] B (.slice none 0 0) w := ⟨fun _ => rfl, ownsRow_nil _ _ _ _⟩
theorem OwnI.push {l : List Int} {B : Nat} {v : Value} {w : World} (h : OwnI l B v w) (hB : B ≤ w.heap.size) (x : Int) (hl : l.length ≤ 100000) : ∃ v' w', (Builtin.append_ #[22, 22] 22 #[v, .slice (some ⟨w.heap.size, 0, none⟩) 1 1]).run Tryz.prog (w.alloc (.cells #[.int .i64 x] 3)) = .ok v' w' ∧ OwnI (l ++ [x]) B v' w' ∧ Keep (fun q => v.ownBlock = some q) w w' := by
  obtain ⟨v', w', hrun, ho, hk, hbl⟩ := app_one (P := Tryz.prog) int_elem int_coded h.2 hB x (by omega) (by omega)
  exact ⟨v', w', hrun, ⟨fun h0 => by simp at h0, ho⟩, hk⟩
theorem OwnI.to {l : List Int} {B : Nat} {v : Value} {W w w' : World} (h : OwnI l B v w) (hk : Keep (fun q => v.ownBlock = some q) w w') (hE : Ext W w) (hB : W.heap.size ≤ B) : Ext W w' := hk.toExt hE (fun q hq => Nat.le_trans hB (row_block h.2 q hq).1)
theorem upL_next {up : List Int} {r : Int} {n : Nat} (h : Ht up r n) (k : Nat) (hk : k < (upL up r).length) : (1 ≤ (upL up r).getD k 0 ∧ (upL up r).getD k 0 ≤ up.length) ∧ upAt up ((upL up r).getD k 0) = (upL up r).getD (k + 1) 0 := by
  have e0 : (upL up r).getD k 0 = (upL up r)[k] := by rw [List.getD_eq_getElem?_getD, List.getElem?_eq_getElem hk]; rfl
  have ht := upL_at h k hk
  rw [e0]
  refine ⟨ht.in, ?_⟩
  by_cases hk1 : k + 1 < (upL up r).length
  · have e1 : (upL up r).getD (k + 1) 0 = (upL up r)[k + 1] := by rw [List.getD_eq_getElem?_getD, List.getElem?_eq_getElem hk1]; rfl
    rw [e1]
    have e := upL_some h
    have := wayL_step up n r k (by rw [← e]; exact hk1)
    have a1 : (upL up r)[k] = (wayL up n r)[k]'(by rw [← e]; exact hk) := by congr 1
    have a2 : (upL up r)[k + 1] = (wayL up n r)[k + 1]'(by rw [← e]; exact hk1) := by congr 1
    rw [a1, a2, this]
  · have e1 : (upL up r).getD (k + 1) 0 = 0 := by rw [List.getD_eq_getElem?_getD, List.getElem?_eq_none (by omega)]; rfl
    rw [e1]
    rw [upL_len h] at hk1 hk
    have : n - k = 0 := by omega
    rw [this] at ht
    exact ht.root
theorem getD_out {l : List Int} {k : Nat} (h : l.length ≤ k) : l.getD k 0 = 0 := by rw [List.getD_eq_getElem?_getD, List.getElem?_eq_none h]; rfl
theorem take_getD {l : List Int} {k : Nat} (h : k < l.length) : l.take (k + 1) = l.take k ++ [l.getD k 0] := by
  rw [List.take_succ_eq_append_getElem h, List.getD_eq_getElem?_getD, List.getElem?_eq_getElem h]; rfl
set_option maxRecDepth 100000 in
set_option maxHeartbeats 4000000 in
theorem up39_c (w : World) (up : List Int) (Fl : List (List ClauseI)) (A AF : Option Addr) (c cF : Nat) (r : Int) (h : TreeAt w up Fl A AF c cF) : Calls Tryz.prog 32 #[.agg #[.slice A up.length c, .slice AF Fl.length cF], .int .i64 r] w (RetQ (OwnI (upT up Fl r) w.heap.size) w) := by
  have HE0 := hid (Ext.alloc w (.cells #[.slice A up.length c, .slice AF Fl.length cF] 25))
  have HB0 := hid (Blk.new w 25 #[.slice A up.length c, .slice AF Fl.length cF])
  have HE1 := hid (HE0.out.alloc' (.cells #[.int .i64 r] 3))
  have HB1 := hid (HB0.out.alloc (.cells #[.int .i64 r] 3))
  have HQ := hid (Blk.new (w.alloc (.cells #[.slice A up.length c, .slice AF Fl.length cF] 25)) 3 #[.int .i64 r])
  rw [World.size_alloc] at HQ
  have HTh := fun W (hW : Ext w W) q (hq : Blk W q 3 #[.int .i64 r]) => hid (there39_c W up Fl A AF c cF r q (h.ext hW) hq)
  have HU := hid h.u
  have hl := h.l
  obtain ⟨h1, h2⟩ := h.cap
  unfold maxLen at h2
  by_cases hyes : (inT up.length r && (checkT up Fl == 0)) = true
  · rw [hyes] at HTh
    rw [Bool.and_eq_true, inT_iff] at hyes
    obtain ⟨hr, h0⟩ := hyes
    have h0 : checkT up Fl = 0 := by simpa using h0
    obtain ⟨n, hn⟩ := shape_climb (check_zero h0).2.1 hr.1 hr.2
    have hn : Ht up r n := hn
    have hr0 : (upL up r).getD 0 0 = r := by rw [List.getD_eq_getElem?_getD, upL_self hn]; rfl
    have HNx := hid (upL_next hn)
    have hLl := upL_le up r
    rw [upT_yes h0]
    clear h h0 hr
    generalize hL : upL up r = L at HNx hr0 hLl ⊢
    clear hL hn
    go_enter Tryz.func32, Tryz.ntmps32
    go_wp2_with fail
    generalize (w.alloc (.cells #[.slice A up.length c, .slice AF Fl.length cF] 25)).alloc (.cells #[.int .i64 r] 3) = w1 at HQ HE1 HB1 ⊢
    generalize hg : w.heap.size = g at HB1 HQ ⊢
    refine ((HTh _ HE1.out _ HQ.out).out).mono ?_
    rintro e w2 ⟨rfl, x2⟩
    have X2 := hid (HE1.out.trans x2)
    have HB2 := hid (HB1.out.ext x2)
    have y0 := HB2.out.cell (i := 0) (v := .slice A up.length c) rfl
    have y1 := HB2.out.cell (i := 1) (v := .slice AF Fl.length cF) rfl
    have yl := HB2.out.lt
    clear x2 HTh HB1 HE1 HQ
    go_wp2_with fail
    go_loopw [1, 5] (fun s1 v wr => ∃ (k : Nat) (ov : Value), k ≤ L.length ∧ s1 = .int .i64 (L.getD k 0) ∧ ov = v ∧ OwnI (L.take k) w2.heap.size ov wr ∧ Ext w2 wr) (fun s1 v _ => L.length - (lenV v))
    case atStart => exact ⟨0, _, by omega, by rw [hr0], rfl, by rw [List.take_zero]; exact OwnI.nil _ _, Ext.refl _⟩
    case round =>
      obtain ⟨k, v, hk, rfl, rfl, hO, hE⟩ := hrel
      have HE := hid hE
      have HO := hid hO
      by_cases hlt : k < L.length
      · obtain ⟨⟨r1, r2⟩, hnx⟩ := HNx.out k hlt
        have HT := hid (take_getD hlt)
        obtain ⟨j, hj, hrj, hupj⟩ := upAt_get ⟨r1, r2⟩
        have hupj := hupj hj
        obtain ⟨A', c', hv, p1, p2, p3⟩ := HU.out
        injection hv with hA hn hc
        subst hA hc
        simp only [Ints, List.length_map] at p1 p3
        obtain ⟨b, o, rfl, lb, hcell⟩ := p3 (by omega)
        have HN : Hid (up[j] = L.getD (k + 1) 0) := by unfold Hid; rw [← hupj, hnx]
        have hkl : (L.take k).length ≤ 100000 := by rw [List.length_take]; omega
        generalize L.getD k 0 = z at *
        obtain rfl : z = (j : Int) + 1 := by omega
        have hne : ((j : Int) + 1 != 0) = true := by simp; omega
        obtain ⟨v', w3, hrun, hO3, hk3⟩ := hO.push hE.size ((j : Int) + 1) hkl
        have hE3 : Ext w2 w3 := hO.to hk3 hE (Nat.le_refl _)
        have HE3 := hid hE3
        have HO3 := hid hO3
        have c0 := (X2.out.trans hE3).cell (hcell j [.int .i64 up[j]] 0 (.int .i64 up[j]) (by simp [hj]) rfl)
        simp only [Nat.mul_one, Nat.add_zero] at c0
        have lbr := Nat.lt_of_lt_of_le lb (X2.out.trans hE3).size
        have hb := HB2.out.ext hE3
        have q0 := hb.cell (i := 0) (v := .slice (some ⟨b, o, none⟩) up.length c) rfl
        have q1 := hb.cell (i := 1) (v := .slice AF Fl.length cF) rfl
        have ql := hb.lt
        clear y0 y1 yl hb hE3 hO3 hk3 hcell p3 p1 p2 hn hrj hupj hnx r1 r2 hO hE HU HNx hr0
        generalize up[j] = y at c0 HN
        go_wp2_with (at_builtin; refine wpList_app rfl (.tmp 14) (.tmp 16) _ _ rfl rfl rfl hrun ?_)
        go_roundw
        case rel => exact ⟨k + 1, _, by omega, by rw [HN.out], rfl, by rw [HT.out]; exact HO3.out, HE3.out⟩
        case measure =>
          have e1 := HO.out.len
          have e2 := HO3.out.len
          rw [List.length_append, List.length_take] at e2
          rw [List.length_take] at e1
          simp only [List.length_singleton] at e2
          simp only [e1, e2]
          omega
      · obtain rfl : k = L.length := by omega
        have hz := getD_out (l := L) (Nat.le_refl _)
        rw [List.take_length] at HO hO
        clear hE hO HU HNx y0 y1 yl
        go_wp2_with fail
        go_ret
        exact ⟨_, rfl, HO.out.weak X2.out.size, X2.out.trans HE.out⟩
  · have hno : (inT up.length r && (checkT up Fl == 0)) = false := by simpa using hyes
    rw [hno] at HTh
    have hu : upT up Fl r = [] := upT_none fun ⟨a, b⟩ => hyes (by rw [Bool.and_eq_true, inT_iff]; exact ⟨b, by simp [a]⟩)
    rw [hu]
    clear h hyes hno hu
    go_enter Tryz.func32, Tryz.ntmps32
    go_wp2_with fail
    generalize (w.alloc (.cells #[.slice A up.length c, .slice AF Fl.length cF] 25)).alloc (.cells #[.int .i64 r] 3) = w1 at HQ HE1 HB1 ⊢
    generalize w.heap.size = g at HB1 HQ ⊢
    refine ((HTh _ HE1.out _ HQ.out).out).mono ?_
    rintro e w2 ⟨rfl, x2⟩
    have X2 := hid (HE1.out.trans x2)
    clear x2 HTh HE1 HQ
    go_wp2_with fail
    go_ret
    exact ⟨_, rfl, OwnI.nil _ _, X2.out⟩
end Go.Proofs.YtjnjamhohnnefaaGreatDoor
