/-
  diff.Play.
-/
import Derived.Test.YtgkdiknmjgpgmaaPlD
import Derived.Test.YtgkdiknmjgpgmaaFlG
import Derived.Test.YtgkdiknmjgpgmaaAwT
import Derived.BigRegion
namespace Go.Proofs.Ytgkdiknmjgpgmaa
set_option linter.unusedSimpArgs false
set_option linter.unusedVariables false
open Go.RowKit Go.Maps

theorem ranges_keep {S : Nat → Prop} {w w' : World} {P : Program} {k : TypeId} {R : Value → Option (DataW Value × List MemPlace)} {b r n : Nat} {D : DataW Value} {left : Lit → Bool} {cnt : Nat} (h : w.ranges P k R b r n D left cnt) (he : Keep S w w') (hb : ¬ S b) (hr : ¬ S r) : w'.ranges P k R b r n D left cnt := by
  obtain ⟨es, clock, since, seen, c0, h1, h2, h3, h4, h5, h6⟩ := h
  have l1 : b < w.heap.size := (Array.getElem?_eq_some_iff.1 h1).1
  have l2 : r < w.heap.size := (Array.getElem?_eq_some_iff.1 h5).1
  exact ⟨es, clock, since, seen, c0, (he.block b l1 hb).trans h1, h2, h3, h4, (he.block r l2 hr).trans h5, h6⟩
theorem ranges_lt {w : World} {P : Program} {k : TypeId} {R : Value → Option (DataW Value × List MemPlace)} {b r n : Nat} {D : DataW Value} {left : Lit → Bool} {cnt : Nat} (h : w.ranges P k R b r n D left cnt) : b < w.heap.size ∧ r < w.heap.size := by
  obtain ⟨es, clock, since, seen, c0, h1, h2, h3, h4, h5, h6⟩ := h
  exact ⟨(Array.getElem?_eq_some_iff.1 h1).1, (Array.getElem?_eq_some_iff.1 h5).1⟩
theorem sameKS (a b : ByteArray) : (KS a).sameKey (KS b) = decide (a = b) := by
  by_cases h : a = b
  · subst h; simp [Lit.sameKey]
  · rw [sameKey_ne (KS_ne h)]; simp [h]
/-- What has come of the map, and what is still to come. -/
structure CollS (D : DataW Value) (m : SMap) (left : Lit → Bool) (cnt N : Nat) (S : List ByteArray) : Prop where
  nod : S.Nodup
  got : ∀ s ∈ S, (m s).isSome = true ∧ left (KS s) = false
  rest : ∀ s, (m s).isSome = true → left (KS s) = false → s ∈ S
  sub : ∀ kl, left kl = true → Maps.has D kl = true
  len : S.length + cnt ≤ N
theorem CollS.start {D : DataW Value} {m : SMap} (h : SIs D m) {N : Nat} (hn : Maps.size D ≤ N) : CollS D m (Maps.has D) (Maps.size D) N [] := ⟨List.nodup_nil, by simp, fun s hs hl => (by rw [h.has, hs] at hl; cases hl), fun _ h => h, by simpa using hn⟩
theorem CollS.step {D : DataW Value} {m : SMap} (h : SIs D m) {left : Lit → Bool} {cnt cnt' N : Nat} {S : List ByteArray} (hc : CollS D m left cnt N S) {x : ByteArray} (hx : left (KS x) = true) (hlt : cnt' < cnt) : CollS D m (fun z => left z && !z.sameKey (KS x)) cnt' N (S ++ [x]) where
  nod := List.nodup_append.2 ⟨hc.nod, by simp, fun a ha b hb e => by
    rw [List.mem_singleton.1 hb] at e; subst e
    have := (hc.got a ha).2
    rw [hx] at this; cases this⟩
  got := fun s hs => by
    rcases List.mem_append.1 hs with hs | hs
    · exact ⟨(hc.got s hs).1, by rw [(hc.got s hs).2, Bool.false_and]⟩
    · rw [List.mem_singleton.1 hs]
      have := hc.sub _ hx
      rw [h.has] at this
      exact ⟨this, by rw [sameKS]; simp⟩
  rest := fun s hs hl => by
    simp only [Bool.and_eq_false_iff, Bool.not_eq_false', sameKS, decide_eq_true_eq] at hl
    rcases hl with hl | hl
    · exact List.mem_append_left _ (hc.rest s hs hl)
    · subst hl; simp
  sub := fun kl hk => by
    simp only [Bool.and_eq_true] at hk
    exact hc.sub kl hk.1
  len := by have := hc.len; simp; omega
theorem CollS.done {D : DataW Value} {m : SMap} {left : Lit → Bool} {cnt N : Nat} {S S' : List ByteArray} (hc : CollS D m left cnt N S) (hl : ∀ kl, left kl = false) (hp : S'.Perm S) (hs : S'.Pairwise fun x y => blt y x = false) : S'.Pairwise (fun x y => blt x y = true) ∧ ∀ n, n ∈ S' ↔ (m n).isSome = true := by
  refine ⟨?_, fun n => ?_⟩
  · have hn : S'.Nodup := hp.nodup_iff.2 hc.nod
    exact (hs.and hn).imp fun {a b} hab => blt_total hab.1 (fun e => hab.2 e.symm)
  · rw [hp.mem_iff]
    exact ⟨fun h => (hc.got n h).1, fun h => hc.rest n h (hl _)⟩
theorem wasM_take (a : List LeafI) (k : Nat) (h : k < a.length) : wasM (a.take (k + 1)) = putM (wasM (a.take k)) a[k].name a[k].d := by
  unfold wasM
  rw [List.take_succ_eq_append_getElem h, List.foldl_append]; rfl
/-- diff.Play midway: its turns, its two maps. -/
structure PSt (w W : World) (q3 q5 q6 b1 b2 : Nat) (v : Value) (l : List TurnI) (n1 n2 : Nat) (D1 D2 : DataW Value) (m1 m2 : SMap) : Prop where
  e : Ext w W
  k3 : Blk W q3 49 #[v]
  k5 : Blk W q5 72 #[.map (some b1)]
  k6 : Blk W q6 72 #[.map (some b2)]
  o1 : W.ownsMap Try.prog 9 RS b1 n1 D1
  s1 : SIs D1 m1
  o2 : W.ownsMap Try.prog 9 RS b2 n2 D2
  s2 : SIs D2 m2
  a3 : q3 ≠ b2
  a5 : q5 ≠ b2
  a6 : q6 ≠ b2
  a1 : b1 ≠ b2
  a2 : w.heap.size ≤ b2
  sl : Sl w 4 v (l.map TurnI.cells)
  far : 0 < l.length → ∀ b' o n c, v = .slice (some ⟨b', o, none⟩) n c → b' < w.heap.size
  len : l.length ≤ 1000
  st : ∀ t ∈ l, ShortT t
section
variable {w W : World} {q3 q5 q6 b1 b2 n1 n2 : Nat} {v : Value} {l : List TurnI} {D1 D2 : DataW Value} {m1 m2 : SMap}
theorem PSt.step (h : PSt w W q3 q5 q6 b1 b2 v l n1 n2 D1 D2 m1 m2) {W' : World} (k : Keep (fun q => q = b2) W W') {n' : Nat} {D' : DataW Value} {m' : SMap} (o : W'.ownsMap Try.prog 9 RS b2 n' D') (s : SIs D' m') : PSt w W' q3 q5 q6 b1 b2 v l n1 n' D1 D' m1 m' :=
  ⟨k.toExt h.e (fun q hq => by rw [hq]; exact h.a2), h.k3.keep k h.a3, h.k5.keep k h.a5, h.k6.keep k h.a6, ownsMap_keep h.o1 k h.a1, h.s1, o, s, h.a3, h.a5, h.a6, h.a1, h.a2, h.sl, h.far, h.len, h.st⟩
theorem PSt.mono (h : PSt w W q3 q5 q6 b1 b2 v l n1 n2 D1 D2 m1 m2) {W' : World} (k : Ext W W') : PSt w W' q3 q5 q6 b1 b2 v l n1 n2 D1 D2 m1 m2 :=
  ⟨h.e.trans k, h.k3.ext k, h.k5.ext k, h.k6.ext k, ownsMap_ext h.o1 k, h.s1, ownsMap_ext h.o2 k, h.s2, h.a3, h.a5, h.a6, h.a1, h.a2, h.sl, h.far, h.len, h.st⟩
theorem PSt.each (h : PSt w W q3 q5 q6 b1 b2 v l n1 n2 D1 D2 m1 m2) (hn : n2 ≤ 4000) (f : Nat) (caps : Array Value) (k1 k2 : Int) (st : SMap → TurnI → SMap)
    (hcf : ∀ (args : Array Value) (W : World), (callFunc f args).run Try.prog W = .ok (.enter f args) W)
    (HDo : ∀ W' n D m t, t ∈ l → PSt w W' q3 q5 q6 b1 b2 v l n1 n D1 D m1 m → n < 1000000 → Calls Try.prog f (#[.agg #[.int .i64 t.kind, .string t.name, .string t.from_, .string t.d]] ++ caps) W' (Left W' b2 (n + 1) (st m t))) :
    Calls Try.prog 51 #[.agg #[.int .i64 k1, .int .i64 k2], .func (.func f) #[] caps, .pointer (some ⟨q3, 0, none⟩)] W (fun e W' => e = .returned (.tuple #[]) ∧ ∃ D', PSt w W' q3 q5 q6 b1 b2 v l n1 (n2 + 1000) D1 D' m1 ((l.filter (kindB k1 k2)).foldl st m2)) := by
  refine (each_c W f caps k1 k2 st q3 b2 n2 v l D2 m2 (h.sl.ext h.e) (fun hp b' o n c e he => ?_) h.k3 h.a3 h.o2 h.s2 h.len (by omega) hcf (fun W' n D m t ht hk ho hm hn' => ?_)).mono ?_
  · have := h.far hp b' o n c e
    have := h.a2
    omega
  · exact hid (HDo W' n D m t ht (h.step hk ho hm) hn')
  · rintro e W' ⟨rfl, D', o', s', k'⟩
    exact ⟨rfl, D', h.step k' o' s'⟩
theorem PSt.call2 (h : PSt w W q3 q5 q6 b1 b2 v l n1 n2 D1 D2 m1 m2) (hn : n2 ≤ 4000) :
    Calls Try.prog 51 #[.agg #[.int .i64 2, .int .i64 0], .func (.func 52) #[] #[.pointer (some ⟨q6, 0, none⟩)], .pointer (some ⟨q3, 0, none⟩)] W (fun e W' => e = .returned (.tuple #[]) ∧ ∃ D', PSt w W' q3 q5 q6 b1 b2 v l n1 (n2 + 1000) D1 D' m1 (play1 l m2)) := by
  refine h.each hn 52 #[.pointer (some ⟨q6, 0, none⟩)] 2 0 (fun m t => delM m t.name) (fun _ _ => run_callFunc Try.func52 (by kernel_rfl) (by kernel_rfl)) (fun W' n D m t ht p hn' => ?_)
  refine (do2_c W' t q6 b2 n D m p.k6 p.o2 p.s2 (p.st t ht)).mono ?_
  rintro e W2 ⟨rfl, D2, o, s, k⟩
  exact ⟨rfl, D2, o.mono (by omega), s, k⟩
theorem PSt.call3 (h : PSt w W q3 q5 q6 b1 b2 v l n1 n2 D1 D2 m1 m2) (hn : n2 ≤ 4000) :
    Calls Try.prog 51 #[.agg #[.int .i64 4, .int .i64 0], .func (.func 53) #[] #[.pointer (some ⟨q6, 0, none⟩)], .pointer (some ⟨q3, 0, none⟩)] W (fun e W' => e = .returned (.tuple #[]) ∧ ∃ D', PSt w W' q3 q5 q6 b1 b2 v l n1 (n2 + 1000) D1 D' m1 (play2 l m2)) := by
  refine h.each hn 53 #[.pointer (some ⟨q6, 0, none⟩)] 4 0 (fun m t => delM m t.from_) (fun _ _ => run_callFunc Try.func53 (by kernel_rfl) (by kernel_rfl)) (fun W' n D m t ht p hn' => ?_)
  refine (do3_c W' t q6 b2 n D m p.k6 p.o2 p.s2 (p.st t ht)).mono ?_
  rintro e W2 ⟨rfl, D2, o, s, k⟩
  exact ⟨rfl, D2, o.mono (by omega), s, k⟩
theorem PSt.call4 (h : PSt w W q3 q5 q6 b1 b2 v l n1 n2 D1 D2 m1 m2) (hn : n2 ≤ 4000) :
    Calls Try.prog 51 #[.agg #[.int .i64 4, .int .i64 0], .func (.func 54) #[] #[.pointer (some ⟨q5, 0, none⟩), .pointer (some ⟨q6, 0, none⟩)], .pointer (some ⟨q3, 0, none⟩)] W (fun e W' => e = .returned (.tuple #[]) ∧ ∃ D', PSt w W' q3 q5 q6 b1 b2 v l n1 (n2 + 1000) D1 D' m1 (play3 m1 l m2)) := by
  refine h.each hn 54 #[.pointer (some ⟨q5, 0, none⟩), .pointer (some ⟨q6, 0, none⟩)] 4 0 (fun m t => putM m t.name (getM m1 t.from_)) (fun _ _ => run_callFunc Try.func54 (by kernel_rfl) (by kernel_rfl)) (fun W' n D m t ht p hn' => ?_)
  exact do4_c W' t q6 b2 n q5 b1 n1 D D1 m m1 p.k6 p.o2 p.s2 p.k5 p.o1 p.s1 (p.st t ht) hn'
theorem PSt.call5 (h : PSt w W q3 q5 q6 b1 b2 v l n1 n2 D1 D2 m1 m2) (hn : n2 ≤ 4000) :
    Calls Try.prog 51 #[.agg #[.int .i64 3, .int .i64 1], .func (.func 55) #[] #[.pointer (some ⟨q6, 0, none⟩)], .pointer (some ⟨q3, 0, none⟩)] W (fun e W' => e = .returned (.tuple #[]) ∧ ∃ D', PSt w W' q3 q5 q6 b1 b2 v l n1 (n2 + 1000) D1 D' m1 (play4 l m2)) := by
  refine h.each hn 55 #[.pointer (some ⟨q6, 0, none⟩)] 3 1 (fun m t => putM m t.name t.d) (fun _ _ => run_callFunc Try.func55 (by kernel_rfl) (by kernel_rfl)) (fun W' n D m t ht p hn' => ?_)
  exact do5_c W' t q6 b2 n D m p.k6 p.o2 p.s2 (p.st t ht) hn'
theorem PSt.last {a : List LeafI} (h : PSt w W q3 q5 q6 b1 b2 v l n1 n2 D1 D2 (wasM a) (play3 (wasM a) l (play2 l (play1 l (wasM a))))) (hn : n2 ≤ 4000) :
    Calls Try.prog 51 #[.agg #[.int .i64 3, .int .i64 1], .func (.func 55) #[] #[.pointer (some ⟨q6, 0, none⟩)], .pointer (some ⟨q3, 0, none⟩)] W (fun e W' => e = .returned (.tuple #[]) ∧ ∃ D' n', n' ≤ 5000 ∧ PSt w W' q3 q5 q6 b1 b2 v l n1 n' D1 D' (wasM a) (playM a l)) :=
  (h.call5 hn).mono fun e W' ⟨he, D', hp⟩ => ⟨he, D', _, by omega, hp⟩
end
end Go.Proofs.Ytgkdiknmjgpgmaa
