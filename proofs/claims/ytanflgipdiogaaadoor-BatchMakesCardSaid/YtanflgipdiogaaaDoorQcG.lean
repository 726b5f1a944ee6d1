/-
  What a cut is, in plain words; '==' and loads of entries in drawn regions.
  The law BatchBounds: its walk.
-/
import Derived.Test.YtanflgipdiogaaaDoorQcF
import Derived.Test.YtanflgipdiogaaaDoorQcH
namespace Go.Proofs.YtanflgipdiogaaaDoor
set_option linter.unusedSimpArgs false
set_option linter.unusedVariables false
open Go.RowKit

/-- Batches: each within the limit, or of one; no two that follow one another would fit into one. -/
def CutOk (limit : Int) (ss : List (List EntI)) : Prop := (∀ s ∈ ss, (sumE s : Int) ≤ limit ∨ s.length ≤ 1) ∧ ∀ (i : Nat) s t, ss[i]? = some s → ss[i + 1]? = some t → ∃ e t', t = e :: t' ∧ limit < (sumE s : Int) + sizeE e
theorem sumE_snoc (l : List EntI) (e : EntI) : sumE (l ++ [e]) = sumE l + sizeE e := by simp [sumE]
theorem snoc_get {α : Type} {l : List α} {x y : α} {i : Nat} (h : (l ++ [x])[i]? = some y) : (i < l.length ∧ l[i]? = some y) ∨ (i = l.length ∧ y = x) := by
  by_cases hi : i < l.length
  · rw [List.getElem?_append_left hi] at h
    exact .inl ⟨hi, h⟩
  · have h3 : i < (l ++ [x]).length := (List.getElem?_eq_some_iff.1 h).1
    rw [List.length_append, List.length_singleton] at h3
    obtain rfl : i = l.length := by omega
    rw [List.getElem?_append_right (Nat.le_refl _), Nat.sub_self] at h
    simp at h
    exact .inr ⟨rfl, h.symm⟩
theorem cutOk_step {limit : Int} {st : List (List EntI) × List EntI × Nat} (h : CutOk limit (st.1 ++ [st.2.1])) (hs : st.2.2 = sumE st.2.1) (hc : st.2.1.length < 256) (e : EntI) : CutOk limit ((stepC limit st e).1 ++ [(stepC limit st e).2.1]) ∧ (stepC limit st e).2.2 = sumE (stepC limit st e).2.1 := by
  obtain ⟨h1, h2⟩ := h
  unfold stepC
  split
  · rename_i hcnd
    dsimp only
    refine ⟨⟨fun s hs' => ?_, fun i s t hi ht => ?_⟩, by simp [sumE]⟩
    · rcases List.mem_append.1 hs' with hs' | hs'
      · exact h1 s hs'
      · rw [List.mem_singleton.1 hs']; exact .inr (by simp)
    · rcases snoc_get ht with ⟨g1, g2⟩ | ⟨g1, rfl⟩
      · have hi' : (st.1 ++ [st.2.1])[i]? = some s := by
          rcases snoc_get hi with ⟨_, g⟩ | ⟨g, _⟩
          · exact g
          · omega
        exact h2 i s t hi' g2
      · rcases snoc_get hi with ⟨g, g'⟩ | ⟨g, _⟩
        · rcases snoc_get g' with ⟨q, _⟩ | ⟨q, rfl⟩
          · rw [List.length_append, List.length_singleton] at g1; omega
          · refine ⟨e, [], rfl, ?_⟩
            rw [← hs]
            rcases hcnd.2 with q | q
            · exact q
            · omega
        · omega
  · rename_i hcnd
    dsimp only
    refine ⟨⟨fun s hs' => ?_, fun i s t hi ht => ?_⟩, by rw [sumE_snoc, hs]⟩
    · rcases List.mem_append.1 hs' with hs' | hs'
      · exact h1 s (List.mem_append_left _ hs')
      · rw [List.mem_singleton.1 hs']
        by_cases h0 : 0 < st.2.1.length
        · refine .inl ?_
          rw [sumE_snoc, ← hs]
          have : ¬ limit < (st.2.2 : Int) + sizeE e := fun q => hcnd ⟨h0, .inl q⟩
          push_cast
          omega
        · refine .inr ?_
          rw [List.length_append, List.length_singleton]; omega
    · skip
      have hi1 : i + 1 < (st.1 ++ [st.2.1 ++ [e]]).length := (List.getElem?_eq_some_iff.1 ht).1
      rw [List.length_append, List.length_singleton] at hi1
      have hi' : (st.1 ++ [st.2.1])[i]? = some s := by
        rcases snoc_get hi with ⟨g, g'⟩ | ⟨g, _⟩
        · rw [List.getElem?_append_left g]; exact g'
        · omega
      rcases snoc_get ht with ⟨g1, g2⟩ | ⟨g1, rfl⟩
      · exact h2 i s t hi' (by rw [List.getElem?_append_left g1]; exact g2)
      · obtain ⟨e', t', q1, q2⟩ := h2 i s st.2.1 hi' (by rw [List.getElem?_append_right (by omega), g1, Nat.sub_self]; rfl)
        exact ⟨e', t' ++ [e], by rw [q1]; rfl, q2⟩
theorem cutOk_fold (limit : Int) : ∀ (l : List EntI) (st : List (List EntI) × List EntI × Nat), CutOk limit (st.1 ++ [st.2.1]) → st.2.2 = sumE st.2.1 → st.2.1.length + l.length < 256 → CutOk limit ((l.foldl (stepC limit) st).1 ++ [(l.foldl (stepC limit) st).2.1])
  | [], st, h, _, _ => h
  | e :: l, st, h, hs, hl => by
    rw [List.length_cons] at hl
    rw [List.foldl_cons]
    obtain ⟨a1, a2⟩ := cutOk_step h hs (by omega) e
    refine cutOk_fold limit l _ a1 a2 ?_
    have : (stepC limit st e).2.1.length ≤ st.2.1.length + 1 := by
      unfold stepC
      split
      · simp
      · simp
    omega
theorem cutL_ok {limit : Int} {l : List EntI} (hl : l.length < 256) (h0 : 0 ≤ limit) : CutOk limit (cutL limit l) := by
  refine cutOk_fold limit l ([], [], 0) ⟨fun s hs => ?_, fun i s t hi ht => ?_⟩ rfl (by simpa using hl)
  · simp only [List.nil_append, List.mem_singleton] at hs
    rw [hs]; exact .inr (by simp)
  · have := (List.getElem?_eq_some_iff.1 ht).1
    simp at this
theorem stepC_ne (limit : Int) (st : List (List EntI) × List EntI × Nat) (e : EntI) : (stepC limit st e).2.1 ≠ [] := by
  unfold stepC
  split <;> simp
theorem foldC_open (limit : Int) : ∀ (l : List EntI) (st : List (List EntI) × List EntI × Nat), st.2.1 ≠ [] → (l.foldl (stepC limit) st).2.1 ≠ []
  | [], _, h => h
  | e :: l, st, _ => by
    rw [List.foldl_cons]
    exact foldC_open limit l _ (stepC_ne limit st e)
theorem cutL_ne {limit : Int} {l : List EntI} (h0 : 0 < l.length) : ∀ s ∈ cutL limit l, 0 < s.length := by
  intro s hs
  rcases List.mem_append.1 hs with hs | hs
  · exact foldC_ne limit l ([], [], 0) (fun s hs => by cases hs) s hs
  · rw [List.mem_singleton.1 hs]
    refine List.length_pos_iff.2 ?_
    unfold foldC
    cases l with
    | nil => cases h0
    | cons e l => rw [List.foldl_cons]; exact foldC_open limit l _ (stepC_ne limit _ e)
/-- Where the kth of the ith lies in the whole. -/
theorem flat_at' {α : Type} : ∀ (ss : List (List α)) (i : Nat) (hi : i < ss.length) (k : Nat) (x : α), ss[i][k]? = some x → ss.flatten[(ss.take i).flatten.length + k]? = some x
  | [], i, hi, _, _, _ => by cases hi
  | s :: ss, 0, hi, k, x, h => by
    simp only [List.getElem_cons_zero] at h
    have hk := (List.getElem?_eq_some_iff.1 h).1
    simp only [List.take_zero, List.flatten_nil, List.length_nil, Nat.zero_add, List.flatten_cons]
    rw [List.getElem?_append_left hk]; exact h
  | s :: ss, i + 1, hi, k, x, h => by
    simp only [List.getElem_cons_succ] at h
    have := flat_at' ss i (by simpa using hi) k x h
    rw [List.take_succ_cons, List.flatten_cons, List.flatten_cons, List.length_append, List.getElem?_append_right (by omega)]
    rw [← this]; congr 1; omega
theorem take_flat {α : Type} {ss : List (List α)} {i : Nat} (hi : i < ss.length) : (ss.take (i + 1)).flatten.length = (ss.take i).flatten.length + ss[i].length := by
  rw [List.take_succ_eq_append_getElem hi, List.flatten_append, List.length_append, List.flatten_singleton]
theorem quiet_load_at {P : Program} {o : Oper} {T : TypeId} {x : Operand} {p : Addr} {cs : Array Value} {a : Act} {C : World → Prop} {K : Act → Prop} (hop : o.op = .load T x) (hx : a.eval x = .pointer (some p)) (hld : ∀ w, C w → (loadVar T p).run P w = .ok (.agg cs) w) (hK : K (a.put o.dst (.agg cs))) : o.quiet P a C K := by
  refine ⟨.agg cs, fun w hw => ?_, hK⟩
  have h1 := hld w hw
  simp only [Oper.quietAt, execOp, hop, hx, Instr.loadAt, Instr.sureAddr, Sem.run_bind, Sem.run_pure, Result.andThen, h1]
  exact ⟨rfl, rfl⟩
theorem ent_loadVar {w : World} {b off : Nat} {cs : Array Value} (hz : cs.size = 21) (h : ∀ (j : Nat) v, cs[j]? = some v → w.cell? ⟨b, off + j, none⟩ = some v) : (loadVar 44 ⟨b, off, none⟩).run Tryd.prog w = .ok (.agg cs) w := by
  have := run_loadVar_mid (P := Tryd.prog) w b off 44 cs.toList _ (fun j v hv => h j v (by simpa using hv)) Tryd.underlying44 rfl (by rw [Array.length_toList, hz]; exact ent_size)
  simpa using this
end Go.Proofs.YtanflgipdiogaaaDoor
namespace Go.Proofs.YtanflgipdiogaaaDoor
set_option linter.unusedSimpArgs false
set_option linter.unusedVariables false
open Go.RowKit

/-- An entry whose numbers are numbers. -/
structure EntIn (e : EntI) : Prop where
  u : e.u.in64
  m : e.m.in64
  ms : in64 e.m.size
  k : in64 e.kind
  o : (in64 e.o.a.by_ ∧ in64 e.o.a.n) ∧ (in64 e.o.b.by_ ∧ in64 e.o.b.n)
theorem EntIn.ok {e : EntI} (h : EntIn e) (hl : lightE e = true) : EntOk e := by
  unfold lightE lightU at hl
  simp only [Bool.and_eq_true, decide_eq_true_eq] at hl
  exact ⟨h.u, by omega, by omega, h.m, by omega, h.ms, h.k, h.o⟩
attribute [-simp] Tryd.isAgg44 Tryd.sizeOf44
set_option maxRecDepth 100000 in
set_option maxHeartbeats 8000000 in
theorem bounds_dark (w : World) (v : Value) (l : List EntI) (lim : Int) (m : Int) (hm : w.cell? ⟨0, 0, none⟩ = some (.int .i64 m)) (h : Sl w 21 v (l.map EntI.cells)) (hin : ∀ e ∈ l, EntIn e) (hlim : 0 ≤ lim ∧ lim < 65536) (hl : (l.all lightE && decide (l.length ≤ 60)) = false ∨ ((l.all lightE && decide (l.length ≤ 60)) = true ∧ l.all hasB = false)) : Calls Tryd.prog 4 #[v, .int .u16 lim] w (Ret (.bool true) w) := by
  have HLi := fun W (hW : Ext w W) => hid (light19_c W v l (h.ext hW))
  have HAw := fun W (hW : Ext w W) => hid (awake19_c W m (hW.cell hm))
  rcases hl with hl | ⟨hl, hb⟩
  · rw [hl] at HLi
    clear hl h hin hm
    go_enter Tryd.func4, Tryd.ntmps4
    go_wp2_with fail
    refine ((HLi _ (Ext.refl w)).out).mono ?_
    rintro en w1 ⟨rfl, x1⟩
    have HX := hid x1
    clear x1
    go_wp2_with fail
    refine ((HAw _ HX.out).out).mono ?_
    rintro en w2 ⟨rfl, x2⟩
    have HX2 := hid (HX.out.trans x2)
    clear x2
    go_wp2_with fail
    go_ret
    exact ⟨rfl, HX2.out⟩
  · have hok : ∀ e ∈ l, EntOk e := fun e he => (hin e he).ok (by
      simp only [Bool.and_eq_true] at hl
      exact List.all_eq_true.1 hl.1 e he)
    have HRi := fun W (hW : Ext w W) => hid (right19_c W v l (h.ext hW) hok)
    rw [hl] at HLi
    rw [hb] at HRi
    clear hl hb h hin hm hok
    go_enter Tryd.func4, Tryd.ntmps4
    go_wp2_with fail
    refine ((HLi _ (Ext.refl w)).out).mono ?_
    rintro en w1 ⟨rfl, x1⟩
    have HX := hid x1
    clear x1
    go_wp2_with fail
    refine ((HRi _ HX.out).out).mono ?_
    rintro en w2 ⟨rfl, x2⟩
    have HX2 := hid (HX.out.trans x2)
    clear x2 HX
    go_wp2_with fail
    refine ((HAw _ HX2.out).out).mono ?_
    rintro en w3 ⟨rfl, x3⟩
    have HX3 := hid (HX2.out.trans x3)
    clear x3
    go_wp2_with fail
    go_ret
    exact ⟨rfl, HX3.out⟩
/-- An element's address in a row of entries. -/
theorem quiet_index_ent {o : Oper} {x ix : Operand} {b off n c k : Nat} {z : Int} {a : Act} {C : World → Prop} {K : Act → Prop} (hop : o.op = .indexAddr 22 x ix) (hx : a.eval x = .slice (some ⟨b, off, none⟩) n c) (hi : a.eval ix = .int .i64 z) (hz : z = (k : Int)) (hk : k < n) (hK : K (a.put o.dst (.pointer (some ⟨b, off + k * 21, none⟩)))) : o.quiet Tryd.prog a C K := by
  refine ⟨.pointer (some ⟨b, off + k * 21, none⟩), fun w hw => ?_, hK⟩
  subst hz
  have h0 : (0 : Int) ≤ k ∧ (k : Int) < n := by omega
  simp only [Oper.quietAt, execOp, hop, hx, hi]
  have hadd : (⟨b, off, none⟩ : Addr).add (k * 21) = ⟨b, off + k * 21, none⟩ := Addr.add_lit _ _ _
  simp [go_sem, Instr.indexAt, asIntOf, Tryd.underlying22, Tryd.sizeOf44, h0, hadd]
  rw [if_pos hk]
  exact ⟨rfl, rfl⟩
set_option maxRecDepth 100000 in
set_option maxHeartbeats 8000000 in
theorem bounds_main (w : World) (v : Value) (l : List EntI) (lim : Int) (m : Int) (hm : w.cell? ⟨0, 0, none⟩ = some (.int .i64 m)) (h : Sl w 21 v (l.map EntI.cells)) (hin : ∀ e ∈ l, EntIn e) (hlim : 0 ≤ lim ∧ lim < 65536) (hl : (l.all lightE && decide (l.length ≤ 60)) = true) (hb : l.all hasB = true) : Calls Tryd.prog 4 #[v, .int .u16 lim] w (Ret (.bool true) w) := by
  have hl2 := hl
  simp only [Bool.and_eq_true, decide_eq_true_eq] at hl2
  have hok : ∀ e ∈ l, EntOk e := fun e he => (hin e he).ok (List.all_eq_true.1 hl2.1 e he)
  have h60 := hl2.2
  have HLi := fun W (hW : Ext w W) => hid (light19_c W v l (h.ext hW))
  have HRi := fun W (hW : Ext w W) => hid (right19_c W v l (h.ext hW) hok)
  have HAw := fun W (hW : Ext w W) => hid (awake19_c W m (hW.cell hm))
  rw [hl] at HLi
  rw [hb] at HRi
  have hq : 0 ≤ lim % 4096 ∧ lim % 4096 < 4096 := by omega
  have HCu := fun W (hW : Ext w W) => hid (cut_c W v l (lim % 4096 + 1) m (hW.cell hm) (h.ext hW) (by omega) hok (by omega))
  rw [hb] at HCu
  have hrem : lim.tmod 4096 = lim % 4096 := Int.tmod_eq_emod_of_nonneg hlim.1
  clear hl hl2
  go_enter Tryd.func4, Tryd.ntmps4
  go_wp2_with fail
  refine ((HLi _ (Ext.refl w)).out).mono ?_
  rintro en w1 ⟨rfl, x1⟩
  have HX1 := hid x1
  clear x1 HLi
  go_wp2_with fail
  refine ((HRi _ HX1.out).out).mono ?_
  rintro en w2 ⟨rfl, x2⟩
  have HX2 := hid (HX1.out.trans x2)
  clear x2 HX1 HRi
  go_wp2_with fail
  refine ((HCu _ HX2.out).out).mono ?_
  rintro en w3 (⟨hno, _⟩ | ⟨_, u, vs, rfl, hu, hS, x3⟩)
  · cases hno
  have HX3 := hid (HX2.out.trans x3)
  have HCut := hid (cutL_ok (limit := lim % 4096 + 1) (l := l) (by omega) (by omega))
  have HFlat := hid (cutL_flat (lim % 4096 + 1) l)
  have HNe := hid (fun h0 => cutL_ne (limit := lim % 4096 + 1) (l := l) h0)
  have HPos := hid (cutL_pos (lim % 4096 + 1) l)
  have hnum := cutL_num (lim % 4096 + 1) l
  have HLen := hid hS.1
  have HSeg := hid hS.2
  have hn1 : 1 ≤ lim % 4096 + 1 ∧ lim % 4096 + 1 ≤ 4096 := by omega
  generalize cutL (lim % 4096 + 1) l = segs at HCut HFlat HNe HPos hnum HLen HSeg
  generalize lim % 4096 + 1 = n at HCut hn1 ⊢
  obtain ⟨A, c, rfl, u1, u2, u3⟩ := sl_get hu
  have HU := hid u3
  have hvn : vs.length ≤ 101 := by have := HLen.out; omega
  have hvp : 0 < vs.length := by have := HLen.out; have := HPos.out; omega
  have hv0 : ((vs.length : Int) == 0) = false := by simp only [beq_eq_false_iff_ne, ne_eq]; omega
  have HSl := hid (h.ext HX3.out)
  obtain ⟨Al, cl, rfl, l1, l2, l3⟩ := sl_get h
  have HL3 := hid l3
  have HOk := hid hok
  have HM := hid hm
  unfold maxLen at u2 l2
  clear HCu hu hS x3 hnum u3 hq hrem h hin hok hm HX2 l3 hlim hb
  go_wp2_with fail
  go_loopw [8, 9] (fun s8 s9 wr => ∃ i : Nat, i ≤ vs.length ∧ s9 = .int .i64 i ∧ s8 = .int .i64 (segs.take i).flatten.length ∧ Hid (Ext w3 wr)) (fun _ s9 _ => vs.length - (intOf s9).toNat)
  case atStart => exact ⟨0, by omega, rfl, rfl, Ext.refl _⟩
  case round =>
    obtain ⟨i, hi, rfl, rfl, hE⟩ := hrel
    by_cases hlt : i < vs.length
    · have e1 : decide ((i : Int) < vs.length) = true := decide_eq_true (by omega)
      have e1' : decide (i < vs.length) = true := decide_eq_true hlt
      obtain ⟨b, o, rfl, lb, hcell⟩ := HU.out (by omega)
      have c0 : w3.cell? ⟨b, o + i, none⟩ = some (.slice vs[i].a vs[i].n vs[i].c) := by
        have := hcell i hlt 0 (.slice vs[i].a vs[i].n vs[i].c) rfl
        simpa using this
      have his : i < segs.length := by have := HLen.out; omega
      have HSk := hid (HSeg.out i vs[i] segs[i] (by simp [hlt]) (by simp [his]))
      have HMem := hid (fun e (he : e ∈ segs[i]) => HOk.out e (by rw [← HFlat.out]; exact List.mem_flatten.2 ⟨_, List.getElem_mem his, he⟩))
      have hsl : segs[i].length ≤ 60 := by
        have := flat_mem segs segs[i] (List.getElem_mem his)
        rw [HFlat.out] at this; omega
      have HNx := hid (take_flat his)
      have HAt := hid (fun k (hk : k < segs[i].length) => (show l[(segs.take i).flatten.length + k]? = some segs[i][k] by
        rw [← HFlat.out]; exact flat_at' segs i his k _ (by simp [hk])))
      have hbl : (segs.take i).flatten.length + segs[i].length ≤ l.length := by
        rw [← take_flat his, ← HFlat.out, ← List.take_append_drop (i + 1) segs, List.flatten_append, List.length_append]
        rw [List.take_append_drop]; omega
      have HA1 := hid (HCut.out.1 segs[i] (List.getElem_mem his))
      have HN1 := hid (fun h0 => HNe.out h0 segs[i] (List.getElem_mem his))
      have HP1 := hid (fun j (hj : j + 1 = i) => (show ∃ (hjv : j < vs.length) (hjs : j < segs.length), w3.cell? ⟨b, o + j, none⟩ = some (.slice vs[j].a vs[j].n vs[j].c) ∧ Sl w3 21 (.slice vs[j].a vs[j].n vs[j].c) (segs[j].map EntI.cells) ∧ (∀ e ∈ segs[j], EntOk e) ∧ segs[j].length ≤ 60 ∧ ∃ e t', segs[i] = e :: t' ∧ n < (sumE segs[j] : Int) + sizeE e from by
        have hjv : j < vs.length := by omega
        have hjs : j < segs.length := by omega
        refine ⟨hjv, hjs, ?_, HSeg.out j vs[j] segs[j] (by simp [hjv]) (by simp [hjs]), fun e he => HOk.out e (by rw [← HFlat.out]; exact List.mem_flatten.2 ⟨_, List.getElem_mem hjs, he⟩), ?_, HCut.out.2 j segs[j] segs[i] (by simp [hjs]) (by subst hj; simp [his])⟩
        · have := hcell j hjv 0 (.slice vs[j].a vs[j].n vs[j].c) rfl
          simpa using this
        · have := flat_mem segs segs[j] (List.getElem_mem hjs)
          rw [HFlat.out] at this; omega))
      generalize (segs.take i).flatten.length = base at HNx HAt hbl ⊢
      generalize vs[i] = sv at c0 HSk
      generalize segs[i] = seg at HSk HMem hsl HNx HAt hbl HA1 HN1 HP1
      obtain ⟨sa, sn, sc⟩ := sv
      obtain ⟨A9, c9, hv9, s1, s2, s3⟩ := sl_get HSk.out
      have hv9' : sn = seg.length ∧ sa = A9 ∧ sc = c9 := by
        unfold SlV.val at hv9
        injection hv9 with q1 q2 q3
        exact ⟨q2, q1, q3⟩
      obtain ⟨rfl, rfl, rfl⟩ := hv9'
      have HC0 := hid c0
      have HLb := hid lb
      have HS3 := hid s3
      have HWe := fun W (hW : Ext w3 W) => hid (weigh_c W (.slice sa seg.length sc) seg m ((HX3.out.trans hW).cell HM.out) (HSk.out.ext hW) (by omega) HMem.out)
      have hsm := sumE_le seg HMem.out
      clear hv9 s3 lb hcell HU HSeg HCut HNe HPos HFlat his
      replace c0 := hE.out.cell HC0.out
      unfold maxLen at s2
      go_wp2_with fail
      refine ((HWe _ hE.out).out).mono ?_
      rintro en w4 ⟨rfl, x4⟩
      have HE4 := hid (hE.out.trans x4)
      have c4 := x4.cell c0
      clear x4 HWe c0 hE
      by_cases h0 : seg.length = 0
      · have hl0 : l.length = 0 := by
          have := HN1.out
          omega
        have hs0 : sumE seg = 0 := by rw [List.eq_nil_of_length_eq_zero h0]; rfl
        have dw : decide (n < (sumE seg : Int)) = false := decide_eq_false (by omega)
        have dl0 : ((seg.length : Int) == 0) = true := by simp only [beq_iff_eq]; omega
        have dll : decide ((0 : Int) < l.length) = false := decide_eq_false (by omega)
        have dll' : decide (0 < l.length) = false := decide_eq_false (by omega)
        clear hs0 h0 hl0
        go_wp2_with fail
        clear dw dl0 dll dll' c4
        go_loopw [8, 11] (fun s8 s11 WQ => ∃ j : Nat, j ≤ seg.length ∧ s8 = .int .i64 ((base + j : Nat) : Int) ∧ s11 = .int .i64 j ∧ Hid (Ext w3 WQ)) (fun _ s11 _ => seg.length - (intOf s11).toNat)
        case atStart => exact ⟨0, by omega, rfl, rfl, HE4⟩
        case round =>
          obtain ⟨j, hj, rfl, rfl, hE5⟩ := hrel
          have c5 := hE5.out.cell HC0.out
          have lb5 := Nat.lt_of_lt_of_le HLb.out hE5.out.size
          by_cases hjl : j < seg.length
          · have f1 : decide ((j : Int) < seg.length) = true := decide_eq_true (by omega)
            have f1' : decide (j < seg.length) = true := decide_eq_true hjl
            have f2 : decide ((l.length : Int) ≤ (base + j : Nat)) = false := decide_eq_false (by omega)
            have f2'' : decide ((l.length : Int) ≤ (base : Int) + j) = false := decide_eq_false (by omega)
            have f2' : decide (l.length ≤ base + j) = false := decide_eq_false (by omega)
            obtain ⟨b2, o2, rfl, lb2, hc2⟩ := HS3.out (by omega)
            obtain ⟨b3, o3, rfl, lb3, hc3⟩ := HL3.out (by omega)
            have hlt3 : base + j < l.length := by omega
            have HR2 := hid (fun (q : Nat) u (hu : seg[j].arr[q]? = some u) => hE5.out.cell (hc2 j hjl q u (by rw [← arr_list, Array.getElem?_toList]; exact hu)))
            have HR3 := hid (fun (q : Nat) u (hu : l[base + j].arr[q]? = some u) => (HX3.out.trans hE5.out).cell (hc3 (base + j) hlt3 q u (by rw [← arr_list, Array.getElem?_toList]; exact hu)))
            have he : l[base + j] = seg[j] := by
              have := HAt.out j hjl
              rw [List.getElem?_eq_getElem hlt3] at this
              exact Option.some.inj this
            have he' : l[base + j].arr = seg[j].arr := by rw [he]
            have HEq := fun W => run_eq_ent seg[j] seg[j] W
            rw [decide_eq_true (rfl : seg[j] = seg[j])] at HEq
            rw [he'] at HR3
            have hz := hid (arr_size seg[j])
            generalize seg[j].arr = arr at HR2 HR3 HEq hz
            clear hc2 hc3 he he' lb2 lb3
            go_wp2_with fail
            refine wp_region_any_order (by kernel_rfl) (by kernel_rfl) (by kernel_rfl) ?_
            repeat (first
              | (refine AWq.val rfl rfl rfl rfl (fun K hK => ?_); go_big_quiet_op; refine hK _ ?_; clear hK K)
              | (refine AWq.skip rfl rfl rfl ?_; simp only [Act.put, List.setIfInBounds_toArray, List.set_cons_succ, List.set_cons_zero])
              | (refine AWq.val rfl rfl rfl rfl (fun K hK => ?_); refine quiet_index_ent (k := j) rfl rfl rfl rfl hjl (hK _ ?_); clear hK K; simp only [Act.put, List.setIfInBounds_toArray, List.set_cons_succ, List.set_cons_zero])
              | (refine AWq.val rfl rfl rfl rfl (fun K hK => ?_); refine quiet_index_ent (k := base + j) rfl rfl rfl (by omega) hlt3 (hK _ ?_); clear hK K; simp only [Act.put, List.setIfInBounds_toArray, List.set_cons_succ, List.set_cons_zero])
              | (refine AWq.val rfl rfl rfl rfl (fun K hK => ?_); refine quiet_load_at rfl rfl (fun wc hwc => by obtain ⟨E, rfl⟩ := hwc; exact ent_loadVar hz.out (fun j v hv => (Ext.of_wext _ _).cell (HR2.out j v hv))) (hK _ ?_); clear hK K; simp only [Act.put, List.setIfInBounds_toArray, List.set_cons_succ, List.set_cons_zero])
              | (refine AWq.val rfl rfl rfl rfl (fun K hK => ?_); refine quiet_load_at rfl rfl (fun wc hwc => by obtain ⟨E, rfl⟩ := hwc; exact ent_loadVar hz.out (fun j v hv => (Ext.of_wext _ _).cell (HR3.out j v hv))) (hK _ ?_); clear hK K; simp only [Act.put, List.setIfInBounds_toArray, List.set_cons_succ, List.set_cons_zero]))
            refine AWq.done rfl rfl rfl (fun w6 x6 => ?_)
            simp only [closeAny, Act.put, List.setIfInBounds_toArray, List.set_cons_succ, List.set_cons_zero]
            go_wp2_with fail
            go_roundw
            case rel => exact ⟨j + 1, by omega, by go_num, by go_num, hE5.out.trans x6⟩
            case measure => simp [intOf]; omega
          · obtain rfl : j = seg.length := by omega
            have f1 : decide ((seg.length : Int) < seg.length) = false := decide_eq_false (by omega)
            have f1' : decide (seg.length < seg.length) = false := decide_eq_false (by omega)
            clear hjl hj HL3 HAt HC0
            go_wp2_with fail
            by_cases hi0 : 0 < i
            · obtain ⟨i', rfl⟩ : ∃ i', i = i' + 1 := ⟨i - 1, by omega⟩
              obtain ⟨hjv, hjs, k1, k2, k3, k4, e, t', k5, k6⟩ := HP1.out i' rfl
              have hpos : 0 < seg.length := by rw [k5]; simp
              obtain ⟨b2, o2, rfl, lb2, hc2⟩ := HS3.out hpos
              have he : seg[0] = e := by simp only [k5, List.getElem_cons_zero]
              have HR0 := hid (fun (q : Nat) u (hu : e.arr[q]? = some u) => hE5.out.cell (hc2 0 hpos q u (by rw [he, ← arr_list, Array.getElem?_toList]; exact hu)))
              have hoke := HMem.out e (by rw [k5]; simp)
              have HSz := fun W => hid (rsize_c W e hoke)
              have hse := sizeE_le hoke
              have HWe' := fun W (hW : Ext w3 W) => hid (weigh_c W (.slice vs[i'].a vs[i'].n vs[i'].c) segs[i'] m ((HX3.out.trans hW).cell HM.out) (k2.ext hW) (by omega) k3)
              have hsm' := sumE_le segs[i'] k3
              have k1' := hE5.out.cell k1
              have HK2 := hid (k2.ext hE5.out)
              have g1 : decide ((0 : Int) < (i' : Int) + 1) = true := decide_eq_true (by omega)
              have g1' : decide (0 < i' + 1) = true := decide_eq_true (by omega)
              have g2 : 0 ≤ (i' : Int) ∧ (i' : Int) < vs.length := by omega
              have hz := hid (arr_size e)
              generalize e.arr = arr at HR0 HSz hz
              generalize sizeE e = se at HSz hse k6
              generalize sumE segs[i'] = sm at HWe' hsm' k6
              have g3 : decide ((sm : Int) + se ≤ n) = false := decide_eq_false (by omega)
              have hsm2 : sm ≤ 60000 := by omega
              generalize vs[i'] = sv' at HWe' k1'
              clear k1 k2 k3 k4 k5 k6 hc2 he hoke HP1 HMem HS3 HK2 lb2
              refine wp_region_any_order (by kernel_rfl) (by kernel_rfl) (by kernel_rfl) ?_
              repeat (first
                | (refine AWq.val rfl rfl rfl rfl (fun K hK => ?_); go_big_quiet_op; refine hK _ ?_; clear hK K)
                | (refine AWq.skip rfl rfl rfl ?_; simp only [Act.put, List.setIfInBounds_toArray, List.set_cons_succ, List.set_cons_zero])
                | (refine AWq.call rfl Tryd.func13 (by kernel_rfl) (by kernel_rfl) rfl rfl rfl ?_; apply Exists.intro; refine And.intro (fun wc hc => ?_) ?_; (· (simp only [argsOf, anyAt, ↓reduceIte, Nat.reduceEqDiff, Array.getD_eq_getD_getElem?, List.getElem?_toArray, List.getElem?_cons_succ, List.getElem?_cons_zero, Option.getD_some]; with_reducible exact (HWe' _ (hE5.out.trans hc)).out)); simp only [Act.put, List.setIfInBounds_toArray, List.set_cons_succ, List.set_cons_zero])
                | (refine AWq.call rfl Tryd.func14 (by kernel_rfl) (by kernel_rfl) rfl rfl rfl ?_; apply Exists.intro; refine And.intro (fun wc hc => ?_) ?_; (· (simp only [argsOf, anyAt, ↓reduceIte, Nat.reduceEqDiff, Array.getD_eq_getD_getElem?, List.getElem?_toArray, List.getElem?_cons_succ, List.getElem?_cons_zero, Option.getD_some]; with_reducible exact (HSz _).out)); simp only [Act.put, List.setIfInBounds_toArray, List.set_cons_succ, List.set_cons_zero])
                | (refine AWq.val rfl rfl rfl rfl (fun K hK => ?_); refine quiet_index_ent (k := 0) rfl rfl rfl rfl hpos (hK _ ?_); clear hK K; simp only [Act.put, List.setIfInBounds_toArray, List.set_cons_succ, List.set_cons_zero])
                | (refine AWq.val rfl rfl rfl rfl (fun K hK => ?_); refine quiet_load_at rfl rfl (fun wc hwc => by obtain ⟨E, rfl⟩ := hwc; exact ent_loadVar hz.out (fun j v hv => (Ext.of_wext _ _).cell (HR0.out j v hv))) (hK _ ?_); clear hK K; simp only [Act.put, List.setIfInBounds_toArray, List.set_cons_succ, List.set_cons_zero]))
              refine AWq.done rfl rfl rfl (fun w7 x7 => ?_)
              simp only [closeAny, Act.put, List.setIfInBounds_toArray, List.set_cons_succ, List.set_cons_zero]
              go_wp2_with fail
              exact ⟨⟨i' + 1 + 1, by omega, by go_num, by rw [HNx.out], hE5.out.trans x7⟩, by simp [intOf]; omega⟩
            · obtain rfl : i = 0 := by omega
              clear hi0 HP1 HMem HS3
              refine wp_region_any_order (by kernel_rfl) (by kernel_rfl) (by kernel_rfl) ?_
              repeat (first
                | (refine AWq.val rfl rfl rfl rfl (fun K hK => ?_); go_big_quiet_op; refine hK _ ?_; clear hK K)
                | (refine AWq.skip rfl rfl rfl ?_; simp only [Act.put, List.setIfInBounds_toArray, List.set_cons_succ, List.set_cons_zero]))
              refine AWq.done rfl rfl rfl (fun w7 x7 => ?_)
              simp only [closeAny, Act.put, List.setIfInBounds_toArray, List.set_cons_succ, List.set_cons_zero]
              go_wp2_with fail
              exact ⟨⟨0 + 1, by omega, by go_num, by rw [HNx.out], hE5.out.trans x7⟩, by simp [intOf]; omega⟩
      · have dl0 : ((seg.length : Int) == 0) = false := by simp only [beq_eq_false_iff_ne, ne_eq]; omega
        by_cases hw : n < (sumE seg : Int)
        · have dw : decide (n < (sumE seg : Int)) = true := decide_eq_true hw
          have h1 : seg.length = 1 := by
            have := HA1.out
            omega
          have dl1 : ((seg.length : Int) == 1) = true := by simp only [beq_iff_eq]; omega
          have dl1' : ((seg.length : Int) != 1) = false := by simp only [bne, dl1]; rfl
          clear h1
          go_wp2_with fail
          clear dw dl0 dl1 dl1' c4
          go_loopw [8, 11] (fun s8 s11 WQ => ∃ j : Nat, j ≤ seg.length ∧ s8 = .int .i64 ((base + j : Nat) : Int) ∧ s11 = .int .i64 j ∧ Hid (Ext w3 WQ)) (fun _ s11 _ => seg.length - (intOf s11).toNat)
          case atStart => exact ⟨0, by omega, rfl, rfl, HE4⟩
          case round =>
            obtain ⟨j, hj, rfl, rfl, hE5⟩ := hrel
            have c5 := hE5.out.cell HC0.out
            have lb5 := Nat.lt_of_lt_of_le HLb.out hE5.out.size
            by_cases hjl : j < seg.length
            · have f1 : decide ((j : Int) < seg.length) = true := decide_eq_true (by omega)
              have f1' : decide (j < seg.length) = true := decide_eq_true hjl
              have f2 : decide ((l.length : Int) ≤ (base + j : Nat)) = false := decide_eq_false (by omega)
              have f2'' : decide ((l.length : Int) ≤ (base : Int) + j) = false := decide_eq_false (by omega)
              have f2' : decide (l.length ≤ base + j) = false := decide_eq_false (by omega)
              obtain ⟨b2, o2, rfl, lb2, hc2⟩ := HS3.out (by omega)
              obtain ⟨b3, o3, rfl, lb3, hc3⟩ := HL3.out (by omega)
              have hlt3 : base + j < l.length := by omega
              have HR2 := hid (fun (q : Nat) u (hu : seg[j].arr[q]? = some u) => hE5.out.cell (hc2 j hjl q u (by rw [← arr_list, Array.getElem?_toList]; exact hu)))
              have HR3 := hid (fun (q : Nat) u (hu : l[base + j].arr[q]? = some u) => (HX3.out.trans hE5.out).cell (hc3 (base + j) hlt3 q u (by rw [← arr_list, Array.getElem?_toList]; exact hu)))
              have he : l[base + j] = seg[j] := by
                have := HAt.out j hjl
                rw [List.getElem?_eq_getElem hlt3] at this
                exact Option.some.inj this
              have he' : l[base + j].arr = seg[j].arr := by rw [he]
              have HEq := fun W => run_eq_ent seg[j] seg[j] W
              rw [decide_eq_true (rfl : seg[j] = seg[j])] at HEq
              rw [he'] at HR3
              have hz := hid (arr_size seg[j])
              generalize seg[j].arr = arr at HR2 HR3 HEq hz
              clear hc2 hc3 he he' lb2 lb3
              go_wp2_with fail
              refine wp_region_any_order (by kernel_rfl) (by kernel_rfl) (by kernel_rfl) ?_
              repeat (first
                | (refine AWq.val rfl rfl rfl rfl (fun K hK => ?_); go_big_quiet_op; refine hK _ ?_; clear hK K)
                | (refine AWq.skip rfl rfl rfl ?_; simp only [Act.put, List.setIfInBounds_toArray, List.set_cons_succ, List.set_cons_zero])
                | (refine AWq.val rfl rfl rfl rfl (fun K hK => ?_); refine quiet_index_ent (k := j) rfl rfl rfl rfl hjl (hK _ ?_); clear hK K; simp only [Act.put, List.setIfInBounds_toArray, List.set_cons_succ, List.set_cons_zero])
                | (refine AWq.val rfl rfl rfl rfl (fun K hK => ?_); refine quiet_index_ent (k := base + j) rfl rfl rfl (by omega) hlt3 (hK _ ?_); clear hK K; simp only [Act.put, List.setIfInBounds_toArray, List.set_cons_succ, List.set_cons_zero])
                | (refine AWq.val rfl rfl rfl rfl (fun K hK => ?_); refine quiet_load_at rfl rfl (fun wc hwc => by obtain ⟨E, rfl⟩ := hwc; exact ent_loadVar hz.out (fun j v hv => (Ext.of_wext _ _).cell (HR2.out j v hv))) (hK _ ?_); clear hK K; simp only [Act.put, List.setIfInBounds_toArray, List.set_cons_succ, List.set_cons_zero])
                | (refine AWq.val rfl rfl rfl rfl (fun K hK => ?_); refine quiet_load_at rfl rfl (fun wc hwc => by obtain ⟨E, rfl⟩ := hwc; exact ent_loadVar hz.out (fun j v hv => (Ext.of_wext _ _).cell (HR3.out j v hv))) (hK _ ?_); clear hK K; simp only [Act.put, List.setIfInBounds_toArray, List.set_cons_succ, List.set_cons_zero]))
              refine AWq.done rfl rfl rfl (fun w6 x6 => ?_)
              simp only [closeAny, Act.put, List.setIfInBounds_toArray, List.set_cons_succ, List.set_cons_zero]
              go_wp2_with fail
              go_roundw
              case rel => exact ⟨j + 1, by omega, by go_num, by go_num, hE5.out.trans x6⟩
              case measure => simp [intOf]; omega
            · obtain rfl : j = seg.length := by omega
              have f1 : decide ((seg.length : Int) < seg.length) = false := decide_eq_false (by omega)
              have f1' : decide (seg.length < seg.length) = false := decide_eq_false (by omega)
              clear hjl hj HL3 HAt HC0
              go_wp2_with fail
              by_cases hi0 : 0 < i
              · obtain ⟨i', rfl⟩ : ∃ i', i = i' + 1 := ⟨i - 1, by omega⟩
                obtain ⟨hjv, hjs, k1, k2, k3, k4, e, t', k5, k6⟩ := HP1.out i' rfl
                have hpos : 0 < seg.length := by rw [k5]; simp
                obtain ⟨b2, o2, rfl, lb2, hc2⟩ := HS3.out hpos
                have he : seg[0] = e := by simp only [k5, List.getElem_cons_zero]
                have HR0 := hid (fun (q : Nat) u (hu : e.arr[q]? = some u) => hE5.out.cell (hc2 0 hpos q u (by rw [he, ← arr_list, Array.getElem?_toList]; exact hu)))
                have hoke := HMem.out e (by rw [k5]; simp)
                have HSz := fun W => hid (rsize_c W e hoke)
                have hse := sizeE_le hoke
                have HWe' := fun W (hW : Ext w3 W) => hid (weigh_c W (.slice vs[i'].a vs[i'].n vs[i'].c) segs[i'] m ((HX3.out.trans hW).cell HM.out) (k2.ext hW) (by omega) k3)
                have hsm' := sumE_le segs[i'] k3
                have k1' := hE5.out.cell k1
                have HK2 := hid (k2.ext hE5.out)
                have g1 : decide ((0 : Int) < (i' : Int) + 1) = true := decide_eq_true (by omega)
                have g1' : decide (0 < i' + 1) = true := decide_eq_true (by omega)
                have g2 : 0 ≤ (i' : Int) ∧ (i' : Int) < vs.length := by omega
                have hz := hid (arr_size e)
                generalize e.arr = arr at HR0 HSz hz
                generalize sizeE e = se at HSz hse k6
                generalize sumE segs[i'] = sm at HWe' hsm' k6
                have g3 : decide ((sm : Int) + se ≤ n) = false := decide_eq_false (by omega)
                have hsm2 : sm ≤ 60000 := by omega
                generalize vs[i'] = sv' at HWe' k1'
                clear k1 k2 k3 k4 k5 k6 hc2 he hoke HP1 HMem HS3 HK2 lb2
                refine wp_region_any_order (by kernel_rfl) (by kernel_rfl) (by kernel_rfl) ?_
                repeat (first
                  | (refine AWq.val rfl rfl rfl rfl (fun K hK => ?_); go_big_quiet_op; refine hK _ ?_; clear hK K)
                  | (refine AWq.skip rfl rfl rfl ?_; simp only [Act.put, List.setIfInBounds_toArray, List.set_cons_succ, List.set_cons_zero])
                  | (refine AWq.call rfl Tryd.func13 (by kernel_rfl) (by kernel_rfl) rfl rfl rfl ?_; apply Exists.intro; refine And.intro (fun wc hc => ?_) ?_; (· (simp only [argsOf, anyAt, ↓reduceIte, Nat.reduceEqDiff, Array.getD_eq_getD_getElem?, List.getElem?_toArray, List.getElem?_cons_succ, List.getElem?_cons_zero, Option.getD_some]; with_reducible exact (HWe' _ (hE5.out.trans hc)).out)); simp only [Act.put, List.setIfInBounds_toArray, List.set_cons_succ, List.set_cons_zero])
                  | (refine AWq.call rfl Tryd.func14 (by kernel_rfl) (by kernel_rfl) rfl rfl rfl ?_; apply Exists.intro; refine And.intro (fun wc hc => ?_) ?_; (· (simp only [argsOf, anyAt, ↓reduceIte, Nat.reduceEqDiff, Array.getD_eq_getD_getElem?, List.getElem?_toArray, List.getElem?_cons_succ, List.getElem?_cons_zero, Option.getD_some]; with_reducible exact (HSz _).out)); simp only [Act.put, List.setIfInBounds_toArray, List.set_cons_succ, List.set_cons_zero])
                  | (refine AWq.val rfl rfl rfl rfl (fun K hK => ?_); refine quiet_index_ent (k := 0) rfl rfl rfl rfl hpos (hK _ ?_); clear hK K; simp only [Act.put, List.setIfInBounds_toArray, List.set_cons_succ, List.set_cons_zero])
                  | (refine AWq.val rfl rfl rfl rfl (fun K hK => ?_); refine quiet_load_at rfl rfl (fun wc hwc => by obtain ⟨E, rfl⟩ := hwc; exact ent_loadVar hz.out (fun j v hv => (Ext.of_wext _ _).cell (HR0.out j v hv))) (hK _ ?_); clear hK K; simp only [Act.put, List.setIfInBounds_toArray, List.set_cons_succ, List.set_cons_zero]))
                refine AWq.done rfl rfl rfl (fun w7 x7 => ?_)
                simp only [closeAny, Act.put, List.setIfInBounds_toArray, List.set_cons_succ, List.set_cons_zero]
                go_wp2_with fail
                exact ⟨⟨i' + 1 + 1, by omega, by go_num, by rw [HNx.out], hE5.out.trans x7⟩, by simp [intOf]; omega⟩
              · obtain rfl : i = 0 := by omega
                clear hi0 HP1 HMem HS3
                refine wp_region_any_order (by kernel_rfl) (by kernel_rfl) (by kernel_rfl) ?_
                repeat (first
                  | (refine AWq.val rfl rfl rfl rfl (fun K hK => ?_); go_big_quiet_op; refine hK _ ?_; clear hK K)
                  | (refine AWq.skip rfl rfl rfl ?_; simp only [Act.put, List.setIfInBounds_toArray, List.set_cons_succ, List.set_cons_zero]))
                refine AWq.done rfl rfl rfl (fun w7 x7 => ?_)
                simp only [closeAny, Act.put, List.setIfInBounds_toArray, List.set_cons_succ, List.set_cons_zero]
                go_wp2_with fail
                exact ⟨⟨0 + 1, by omega, by go_num, by rw [HNx.out], hE5.out.trans x7⟩, by simp [intOf]; omega⟩
        · have dw : decide (n < (sumE seg : Int)) = false := decide_eq_false hw
          go_wp2_with fail
          clear dw dl0 c4
          go_loopw [8, 11] (fun s8 s11 WQ => ∃ j : Nat, j ≤ seg.length ∧ s8 = .int .i64 ((base + j : Nat) : Int) ∧ s11 = .int .i64 j ∧ Hid (Ext w3 WQ)) (fun _ s11 _ => seg.length - (intOf s11).toNat)
          case atStart => exact ⟨0, by omega, rfl, rfl, HE4⟩
          case round =>
            obtain ⟨j, hj, rfl, rfl, hE5⟩ := hrel
            have c5 := hE5.out.cell HC0.out
            have lb5 := Nat.lt_of_lt_of_le HLb.out hE5.out.size
            by_cases hjl : j < seg.length
            · have f1 : decide ((j : Int) < seg.length) = true := decide_eq_true (by omega)
              have f1' : decide (j < seg.length) = true := decide_eq_true hjl
              have f2 : decide ((l.length : Int) ≤ (base + j : Nat)) = false := decide_eq_false (by omega)
              have f2'' : decide ((l.length : Int) ≤ (base : Int) + j) = false := decide_eq_false (by omega)
              have f2' : decide (l.length ≤ base + j) = false := decide_eq_false (by omega)
              obtain ⟨b2, o2, rfl, lb2, hc2⟩ := HS3.out (by omega)
              obtain ⟨b3, o3, rfl, lb3, hc3⟩ := HL3.out (by omega)
              have hlt3 : base + j < l.length := by omega
              have HR2 := hid (fun (q : Nat) u (hu : seg[j].arr[q]? = some u) => hE5.out.cell (hc2 j hjl q u (by rw [← arr_list, Array.getElem?_toList]; exact hu)))
              have HR3 := hid (fun (q : Nat) u (hu : l[base + j].arr[q]? = some u) => (HX3.out.trans hE5.out).cell (hc3 (base + j) hlt3 q u (by rw [← arr_list, Array.getElem?_toList]; exact hu)))
              have he : l[base + j] = seg[j] := by
                have := HAt.out j hjl
                rw [List.getElem?_eq_getElem hlt3] at this
                exact Option.some.inj this
              have he' : l[base + j].arr = seg[j].arr := by rw [he]
              have HEq := fun W => run_eq_ent seg[j] seg[j] W
              rw [decide_eq_true (rfl : seg[j] = seg[j])] at HEq
              rw [he'] at HR3
              have hz := hid (arr_size seg[j])
              generalize seg[j].arr = arr at HR2 HR3 HEq hz
              clear hc2 hc3 he he' lb2 lb3
              go_wp2_with fail
              refine wp_region_any_order (by kernel_rfl) (by kernel_rfl) (by kernel_rfl) ?_
              repeat (first
                | (refine AWq.val rfl rfl rfl rfl (fun K hK => ?_); go_big_quiet_op; refine hK _ ?_; clear hK K)
                | (refine AWq.skip rfl rfl rfl ?_; simp only [Act.put, List.setIfInBounds_toArray, List.set_cons_succ, List.set_cons_zero])
                | (refine AWq.val rfl rfl rfl rfl (fun K hK => ?_); refine quiet_index_ent (k := j) rfl rfl rfl rfl hjl (hK _ ?_); clear hK K; simp only [Act.put, List.setIfInBounds_toArray, List.set_cons_succ, List.set_cons_zero])
                | (refine AWq.val rfl rfl rfl rfl (fun K hK => ?_); refine quiet_index_ent (k := base + j) rfl rfl rfl (by omega) hlt3 (hK _ ?_); clear hK K; simp only [Act.put, List.setIfInBounds_toArray, List.set_cons_succ, List.set_cons_zero])
                | (refine AWq.val rfl rfl rfl rfl (fun K hK => ?_); refine quiet_load_at rfl rfl (fun wc hwc => by obtain ⟨E, rfl⟩ := hwc; exact ent_loadVar hz.out (fun j v hv => (Ext.of_wext _ _).cell (HR2.out j v hv))) (hK _ ?_); clear hK K; simp only [Act.put, List.setIfInBounds_toArray, List.set_cons_succ, List.set_cons_zero])
                | (refine AWq.val rfl rfl rfl rfl (fun K hK => ?_); refine quiet_load_at rfl rfl (fun wc hwc => by obtain ⟨E, rfl⟩ := hwc; exact ent_loadVar hz.out (fun j v hv => (Ext.of_wext _ _).cell (HR3.out j v hv))) (hK _ ?_); clear hK K; simp only [Act.put, List.setIfInBounds_toArray, List.set_cons_succ, List.set_cons_zero]))
              refine AWq.done rfl rfl rfl (fun w6 x6 => ?_)
              simp only [closeAny, Act.put, List.setIfInBounds_toArray, List.set_cons_succ, List.set_cons_zero]
              go_wp2_with fail
              go_roundw
              case rel => exact ⟨j + 1, by omega, by go_num, by go_num, hE5.out.trans x6⟩
              case measure => simp [intOf]; omega
            · obtain rfl : j = seg.length := by omega
              have f1 : decide ((seg.length : Int) < seg.length) = false := decide_eq_false (by omega)
              have f1' : decide (seg.length < seg.length) = false := decide_eq_false (by omega)
              clear hjl hj HL3 HAt HC0
              go_wp2_with fail
              by_cases hi0 : 0 < i
              · obtain ⟨i', rfl⟩ : ∃ i', i = i' + 1 := ⟨i - 1, by omega⟩
                obtain ⟨hjv, hjs, k1, k2, k3, k4, e, t', k5, k6⟩ := HP1.out i' rfl
                have hpos : 0 < seg.length := by rw [k5]; simp
                obtain ⟨b2, o2, rfl, lb2, hc2⟩ := HS3.out hpos
                have he : seg[0] = e := by simp only [k5, List.getElem_cons_zero]
                have HR0 := hid (fun (q : Nat) u (hu : e.arr[q]? = some u) => hE5.out.cell (hc2 0 hpos q u (by rw [he, ← arr_list, Array.getElem?_toList]; exact hu)))
                have hoke := HMem.out e (by rw [k5]; simp)
                have HSz := fun W => hid (rsize_c W e hoke)
                have hse := sizeE_le hoke
                have HWe' := fun W (hW : Ext w3 W) => hid (weigh_c W (.slice vs[i'].a vs[i'].n vs[i'].c) segs[i'] m ((HX3.out.trans hW).cell HM.out) (k2.ext hW) (by omega) k3)
                have hsm' := sumE_le segs[i'] k3
                have k1' := hE5.out.cell k1
                have HK2 := hid (k2.ext hE5.out)
                have g1 : decide ((0 : Int) < (i' : Int) + 1) = true := decide_eq_true (by omega)
                have g1' : decide (0 < i' + 1) = true := decide_eq_true (by omega)
                have g2 : 0 ≤ (i' : Int) ∧ (i' : Int) < vs.length := by omega
                have hz := hid (arr_size e)
                generalize e.arr = arr at HR0 HSz hz
                generalize sizeE e = se at HSz hse k6
                generalize sumE segs[i'] = sm at HWe' hsm' k6
                have g3 : decide ((sm : Int) + se ≤ n) = false := decide_eq_false (by omega)
                have hsm2 : sm ≤ 60000 := by omega
                generalize vs[i'] = sv' at HWe' k1'
                clear k1 k2 k3 k4 k5 k6 hc2 he hoke HP1 HMem HS3 HK2 lb2
                refine wp_region_any_order (by kernel_rfl) (by kernel_rfl) (by kernel_rfl) ?_
                repeat (first
                  | (refine AWq.val rfl rfl rfl rfl (fun K hK => ?_); go_big_quiet_op; refine hK _ ?_; clear hK K)
                  | (refine AWq.skip rfl rfl rfl ?_; simp only [Act.put, List.setIfInBounds_toArray, List.set_cons_succ, List.set_cons_zero])
                  | (refine AWq.call rfl Tryd.func13 (by kernel_rfl) (by kernel_rfl) rfl rfl rfl ?_; apply Exists.intro; refine And.intro (fun wc hc => ?_) ?_; (· (simp only [argsOf, anyAt, ↓reduceIte, Nat.reduceEqDiff, Array.getD_eq_getD_getElem?, List.getElem?_toArray, List.getElem?_cons_succ, List.getElem?_cons_zero, Option.getD_some]; with_reducible exact (HWe' _ (hE5.out.trans hc)).out)); simp only [Act.put, List.setIfInBounds_toArray, List.set_cons_succ, List.set_cons_zero])
                  | (refine AWq.call rfl Tryd.func14 (by kernel_rfl) (by kernel_rfl) rfl rfl rfl ?_; apply Exists.intro; refine And.intro (fun wc hc => ?_) ?_; (· (simp only [argsOf, anyAt, ↓reduceIte, Nat.reduceEqDiff, Array.getD_eq_getD_getElem?, List.getElem?_toArray, List.getElem?_cons_succ, List.getElem?_cons_zero, Option.getD_some]; with_reducible exact (HSz _).out)); simp only [Act.put, List.setIfInBounds_toArray, List.set_cons_succ, List.set_cons_zero])
                  | (refine AWq.val rfl rfl rfl rfl (fun K hK => ?_); refine quiet_index_ent (k := 0) rfl rfl rfl rfl hpos (hK _ ?_); clear hK K; simp only [Act.put, List.setIfInBounds_toArray, List.set_cons_succ, List.set_cons_zero])
                  | (refine AWq.val rfl rfl rfl rfl (fun K hK => ?_); refine quiet_load_at rfl rfl (fun wc hwc => by obtain ⟨E, rfl⟩ := hwc; exact ent_loadVar hz.out (fun j v hv => (Ext.of_wext _ _).cell (HR0.out j v hv))) (hK _ ?_); clear hK K; simp only [Act.put, List.setIfInBounds_toArray, List.set_cons_succ, List.set_cons_zero]))
                refine AWq.done rfl rfl rfl (fun w7 x7 => ?_)
                simp only [closeAny, Act.put, List.setIfInBounds_toArray, List.set_cons_succ, List.set_cons_zero]
                go_wp2_with fail
                exact ⟨⟨i' + 1 + 1, by omega, by go_num, by rw [HNx.out], hE5.out.trans x7⟩, by simp [intOf]; omega⟩
              · obtain rfl : i = 0 := by omega
                clear hi0 HP1 HMem HS3
                refine wp_region_any_order (by kernel_rfl) (by kernel_rfl) (by kernel_rfl) ?_
                repeat (first
                  | (refine AWq.val rfl rfl rfl rfl (fun K hK => ?_); go_big_quiet_op; refine hK _ ?_; clear hK K)
                  | (refine AWq.skip rfl rfl rfl ?_; simp only [Act.put, List.setIfInBounds_toArray, List.set_cons_succ, List.set_cons_zero]))
                refine AWq.done rfl rfl rfl (fun w7 x7 => ?_)
                simp only [closeAny, Act.put, List.setIfInBounds_toArray, List.set_cons_succ, List.set_cons_zero]
                go_wp2_with fail
                exact ⟨⟨0 + 1, by omega, by go_num, by rw [HNx.out], hE5.out.trans x7⟩, by simp [intOf]; omega⟩
    · obtain rfl : i = vs.length := by omega
      have hfl : (segs.take vs.length).flatten.length = l.length := by rw [List.take_of_length_le (by have := HLen.out; omega), HFlat.out]
      rw [hfl]
      have HEw := hid (HX3.out.trans hE.out)
      clear HL3 HOk HU HSeg HCut HFlat HNe HPos HLen hfl
      have e1 : decide ((vs.length : Int) < vs.length) = false := decide_eq_false (by omega)
      have e1' : decide (vs.length < vs.length) = false := decide_eq_false (by omega)
      go_wp2_with fail
      refine ((HAw _ HEw.out).out).mono ?_
      rintro en w5 ⟨rfl, x5⟩
      have HE5 := hid (HEw.out.trans x5)
      clear x5
      go_wp2_with fail
      go_ret
      exact ⟨rfl, HE5.out⟩
end Go.Proofs.YtanflgipdiogaaaDoor
