/-
  A region whose last operation waits for all others, where the others turn what a relation allows, and of the worlds between any fact is known that the relation keeps.
  Tools for great structs: slices by their three words, parts of blocks, rows laid. Of no law.
-/
import Derived.Test.YtmbgakjkhgdjnaaGreatDoorAw
import Derived.Test.YtmbgakjkhgdjnaaGreatDoorQdL
import Derived.Deep.RegionHeld3
import Derived.Deep.MidRow
import Derived.Great.BuildSlice
namespace Go.Proofs.YtmbgakjkhgdjnaaGreatDoor
set_option linter.unusedSimpArgs false
set_option linter.unusedVariables false
open Go.RowKit

section
variable {P : Program} {ops : Array Oper} {M : Rel} {F : World → Prop} {R : (Nat → Slot) → Prop} {a0 : Act}
/-- The walk at a frame b that is written out. -/
def AWk (P : Program) (ops : Array Oper) (M : Rel) (F : World → Prop) (R : (Nat → Slot) → Prop) (l : List Oper) (b : Act) (A : Anys) : Prop := AW P ops M F R l (slotsOf b A)
/-- An operation that only reads, of exact operands. -/
theorem AWk.val {o : Oper} {rest : List Oper} {b : Act} {A : Anys} {v : Value} (hap : apartB A (o.looksAt ops) = true) (hd : dstB A b.tmps.size o.dst = true) (hsel : (match o.op with | .select .. => false | _ => true) = true) (hw : Region.wanted o (yielded ops b.tmps) = true)
    (h : ∀ w, F w → Gives P (fun u w' => u = v ∧ w' = w) ((execOp b.eval o).run P w)) (hr : AWk P ops M F R rest (b.put o.dst v) A) : AWk P ops M F R (o :: rest) b A := by
  refine ⟨.val v, trivial, fun a w hF hl => ?_, by rw [← slotsOf_put hd]; exact hr⟩
  rw [wanted_same hap hl, if_pos hw, exec_same hsel hap hl]
  have h3 := h w hF
  generalize (execOp b.eval o).run P w = r at h3 ⊢
  cases r with
  | ok n w' =>
    cases n <;> simp only [Gives] at h3 ⊢
    case value u => obtain ⟨rfl, rfl⟩ := h3; exact ⟨rfl, M.refl _⟩
    case skip => obtain ⟨rfl, rfl⟩ := h3; exact ⟨rfl, M.refl _⟩
    case enter f args =>
      first
        | exact h3.elim
        | exact h3.mono fun e w' ⟨u, e1, e2⟩ => ⟨u, e1, e2.1, by rw [e2.2]; exact M.refl _⟩
  | halt x w' => exact h3.elim
theorem AWk.callQ {o : Oper} {rest : List Oper} {b : Act} {A : Anys} {f : FuncId} {fn : Func} {xs : List Operand} {ats : Array TypeId} {d : Nat} (φ : Value → World → Prop) (hφ : ∀ v, SteadyR M (φ v)) (ho : o.op = .call { callee := .value (.func f), args := xs.toArray, argTypes := ats })
    (hf : P.funcs[f]? = some fn) (h1 : (fn.name == "runtime.NumGoroutine") = false) (h2 : fn.body.isNone = false)
    (hg : (match o.guard with | some (j, _) => apartB A (((ops[j]?).bind (·.dst)).toList) | none => true) = true) (hd : o.dst = some d) (hw : Region.wanted o (yielded ops b.tmps) = true)
    (hc : ∀ w, F w → argsOf b A w xs fun ys => Calls P f ys.toArray w (RetQ φ w)) (hr : AWk P ops M F R rest b ((d, φ) :: A)) : AWk P ops M F R (o :: rest) b A := by
  refine ⟨.any φ, hφ, fun a w hF hl => ?_, by rw [hd, ← slotsOf_cons]; exact hr⟩
  have hops : ∀ t, .tmp t ∈ xs → (slotsOf b A t).ok (a.tmps.getD t undef) w := fun t ht =>
    hl t (List.mem_append_left _ (List.mem_filterMap.2 ⟨.tmp t, by simp [ho, Op.operands, Call.operands, ht], rfl⟩))
  have hwa : Region.wanted o (yielded ops a.tmps) = true := by
    rw [← hw]
    unfold Region.wanted
    cases hgd : o.guard with
    | none => rfl
    | some gw =>
      obtain ⟨j, want⟩ := gw
      have : yielded ops a.tmps j = yielded ops b.tmps j := by
        rw [yielded_eq, yielded_eq]
        unfold yieldedOf
        cases ht : (ops[j]?).bind (·.dst) with
        | none => rfl
        | some t =>
          have hm : t ∈ o.looksAt ops := by simp [Oper.looksAt, hgd, ht]
          simp only [hgd] at hg
          have := List.all_eq_true.1 hg t (by simp [ht])
          simp only [Option.map_some]
          rw [val_of this (hl t hm)]
      simp only [this]
  rw [if_pos hwa, exec_call ho rfl, run_callFunc hf h1 h2]
  exact (callsQ (argsOf_get xs _ hops (hc w hF))).mono fun _ _ ⟨v, e, h, k⟩ => ⟨v, e, h, M.ofExt _ _ k⟩
theorem AWk.opQ {o : Oper} {rest : List Oper} {b : Act} {A : Anys} {d : Nat} (φ : Value → World → Prop) (hφ : ∀ v, SteadyR M (φ v)) (hd : o.dst = some d)
    (h : ∀ (a : Act) (w : World), F w → (∀ t ∈ o.looksAt ops, (slotsOf b A t).ok (a.tmps.getD t undef) w) → Region.wanted o (yielded ops a.tmps) = true ∧ Gives P (fun v w' => φ v w' ∧ M.r w w') ((execOp a.eval o).run P w))
    (hr : AWk P ops M F R rest b ((d, φ) :: A)) : AWk P ops M F R (o :: rest) b A := by
  refine ⟨.any φ, hφ, fun a w hF hl => ?_, by rw [hd, ← slotsOf_cons]; exact hr⟩
  obtain ⟨hw, hg⟩ := h a w hF hl
  rw [if_pos hw]
  exact hg
/-- .. the same, its value to be found. -/
theorem AWk.valE {o : Oper} {rest : List Oper} {b : Act} {A : Anys} (hap : apartB A (o.looksAt ops) = true) (hd : dstB A b.tmps.size o.dst = true) (hsel : (match o.op with | .select .. => false | _ => true) = true) (hw : Region.wanted o (yielded ops b.tmps) = true)
    (h : ∃ v, (∀ w, F w → Gives P (fun u w' => u = v ∧ w' = w) ((execOp b.eval o).run P w)) ∧ AWk P ops M F R rest (b.put o.dst v) A) : AWk P ops M F R (o :: rest) b A := by
  obtain ⟨v, h1, h2⟩ := h
  exact AWk.val hap hd hsel hw h1 h2
theorem AWk.last {Q : Exit → Act → World → Prop} {b : Act} {A : Anys} {z : Oper} (hs : b.tmps.size = a0.tmps.size) (hd : b.defers = a0.defers) (hk : keysB b.tmps.size A = true)
    (h : ∀ w, F w → closeAny (wpList P ops Q [z]) w A b) : AWk P ops M F (AfterLast P ops F a0 Q z) [] b A :=
  fun a w he hsz hdf hsl => closeAny_sound A b hk (by rw [hs, hsz]) (by rw [hd, hdf]) (fun t ht => hsl t (by rw [← hs]; exact ht)) (h w he)
theorem wp_region_lastk {id : Nat} {L pre : List Oper} {z : Oper} {Q : Exit → Act → World → Prop} {w : World} (M : Rel) (F : World → Prop) (hpre : L.dropLast = pre) (hz : L.getLast? = some z) (hF : SteadyR M F) (hF0 : F w.drew) (hm : P.follows .mixedOrders = true) (hg : graphB L.toArray a0.tmps.size = true) (hlk : looksB L.toArray a0.tmps.size = true)
    (hlast : lastB L.toArray (L.length - 1) = true)
    (h : AWk P L.toArray M F (AfterLast P L.toArray F a0 Q z) pre a0 []) : (Code.region id L.toArray true).wp P Q a0 w := by
  have hL : L = pre ++ [z] := by
    subst hpre
    have hne : L ≠ [] := by rintro rfl; cases hz
    have hz' := List.getLast?_eq_some_getLast hne
    rw [hz] at hz'
    injection hz' with hz'
    rw [hz', List.dropLast_concat_getLast hne]
  subst hL
  exact wp_region_aw_last M F hF hF0 hm hg hlk (by simpa using hlast) h
end
end Go.Proofs.YtmbgakjkhgdjnaaGreatDoor
namespace Go.Proofs.YtmbgakjkhgdjnaaGreatDoor
set_option linter.unusedSimpArgs false
set_option linter.unusedVariables false
open Go.RowKit

/-- A slice by its three words. -/
structure SlV where
  a : Option Addr
  n : Nat
  c : Nat
def SlV.val (s : SlV) : Value := .slice s.a s.n s.c
def SlV.cells (s : SlV) : List Value := [.slice s.a s.n s.c]
theorem slv_coded : Coded SlV.cells 1 := ⟨fun _ => rfl, fun a u hu => by simp [SlV.cells] at hu; rcases hu with rfl; rfl⟩
theorem run_loadCells_at {P : Program} {w : World} {b off : Nat} {cs : Array Value} (h : ∀ (j : Nat) v, cs[j]? = some v → w.cell? ⟨b, off + j, none⟩ = some v) (n : Nat) (hn : cs.size = n) : (loadCellsFrom ⟨b, off, none⟩ 0 n #[]).run P w = .ok cs w := by
  subst hn
  have := run_loadCells_list (P := P) w ⟨b, off, none⟩ cs.toList (fun j v hv => by
    have hadd : (⟨b, off, none⟩ : Addr).add j = ⟨b, off + j, none⟩ := Addr.add_lit _ _ _
    rw [hadd]
    exact h j v (by simpa using hv))
  simpa [loadCells] using this
def intsV (l : List Int) : List Value := l.map (Value.int .i64)
theorem intsV_len (l : List Int) : (intsV l).length = l.length := by simp [intsV]
theorem intsV_one (l : List Int) : ∀ v ∈ intsV l, v.oneCell' = true := by
  intro v hv
  obtain ⟨x, _, rfl⟩ := List.mem_map.1 hv
  rfl
def nilS : SlV := ⟨none, 0, 0⟩
theorem run_build_rows {P : Program} {t e : TypeId} {sz bytes : Nat} (hE : Elem P t e sz bytes) (w : World) (xs : List (Array Value)) (hx : ∀ x ∈ xs, x.size = sz) (hs : 0 < sz) (hn : xs ≠ []) (hsm : xs.length * sz ≤ 16777216) (parts : Array (Nat × Value)) (hp : parts.toList = ((xs.map Value.agg).zipIdx 0).map fun x => (x.2, x.1)) : (Instr.buildSlice t xs.length parts).run P w = .ok (.slice (some ⟨w.heap.size, 0, none⟩) xs.length xs.length) (w.alloc (.cells (xs.flatMap Array.toList).toArray e)) := by
  obtain ⟨ht, i, z, hi, hz, rfl, rfl, hzs⟩ := hE
  have hpos : 0 < xs.length := List.length_pos_iff.2 hn
  have h0 : 0 < xs.length * i.size := Nat.mul_pos hpos hs
  refine run_buildSlice w t e xs.length parts _ i z ht hi hz (by show ¬ xs.length * i.size > 16777216; omega) (by omega) ?_
  rw [hp]
  have := Great.fill_whole hs (xs.map Value.agg) ((Array.range (xs.length * i.size)).map (z.cells[· % z.cells.size]!)) (fun v hv => by
    obtain ⟨x, hx', rfl⟩ := List.mem_map.1 hv
    exact hx x hx') (by simp)
  rw [List.flatMap_map] at this
  exact this
theorem Blk.setCells {g : Nat} {t : TypeId} : ∀ (vs : List Value) {w : World} {cs : Array Value} (_ : Blk w g t cs) (k : Nat) (_ : k + vs.length ≤ cs.size), Blk (w.setCells g k vs) g t (cs.toList.take k ++ (vs ++ cs.toList.drop (k + vs.length))).toArray
  | [], w, cs, h, k, hk => by
    have e : (cs.toList.take k ++ ([] ++ cs.toList.drop (k + ([] : List Value).length))).toArray = cs := by simp
    rw [e]; exact h
  | v :: vs, w, cs, h, k, hk => by
    rw [List.length_cons] at hk
    have := Blk.setCells vs (h.set k v) (k + 1) (by simp; omega)
    have e : ((cs.setIfInBounds k v).toList.take (k + 1) ++ (vs ++ (cs.setIfInBounds k v).toList.drop (k + 1 + vs.length))) = cs.toList.take k ++ (v :: vs ++ cs.toList.drop (k + (v :: vs).length)) := by
      rw [Array.toList_setIfInBounds]
      have hkl : k < cs.toList.length := by rw [Array.length_toList]; omega
      rw [List.take_succ_eq_append_getElem (by rw [List.length_set]; exact hkl), List.getElem_set_self, List.take_set_of_le (Nat.le_refl _), List.drop_set_of_lt (by omega), List.length_cons, List.append_assoc, show k + 1 + vs.length = k + (vs.length + 1) by omega]
      rfl
    rw [e] at this
    exact this
theorem Keep.setCells {S : Nat → Prop} {a : World} {g : Nat} (hg : S g ∨ a.heap.size ≤ g) : ∀ (vs : List Value) {b : World} (_ : Keep S a b) (k : Nat), Keep S a (b.setCells g k vs)
  | [], _, h, _ => h
  | v :: vs, b, h, k => Keep.setCells hg vs (h.setCell (p := ⟨g, k, none⟩) hg v) (k + 1)
theorem Blk.rangeAt {w : World} {g : Nat} {t : TypeId} {cs : Array Value} (h : Blk w g t cs) (o : Nat) (xs : List Value) (hx : ∀ (j : Nat) v, xs[j]? = some v → cs[o + j]? = some v) : w.rangeAt g o xs := fun j v hv => h.cell (hx j v hv)
theorem Blk.there {w : World} {g : Nat} {t : TypeId} {cs : Array Value} (h : Blk w g t cs) (o n : Nat) (hn : o + n ≤ cs.size) : w.there g o n := fun j hj => ⟨by rw [h.cell (v := cs[o + j]'(by omega)) (by rw [Array.getElem?_eq_getElem (by omega)])]; rfl, h.frozen _⟩
/-- append onto nil. -/
theorem app_nil {α : Type} {code : α → List Value} {sz : Nat} {P : Program} {t tx ty e : TypeId} {bytes : Nat} (hE : Elem P t e sz bytes) (hc : Coded code sz) {tb : TypeId} (hk : P.underlying tx = some (.slice tb)) {w : World} {l : List α} {v : Value} (h : Sl w sz v (l.map code)) (hl : l.length ≤ 1000000) (hb : bytes ≤ 1000000) :
    ∃ v' w', (Builtin.append_ #[t, tx] ty #[.slice none 0 0, v]).run P w = .ok v' w' ∧ w'.ownsRow w.heap.size e sz v' l.length (l.map code).flatten ∧ Ext w w' := by
  obtain ⟨v', w', h1, h2, h3, _, _⟩ := app_row (ty := ty) hE (ownsRow_nil w w.heap.size e sz) (Nat.le_refl _) (src_of_sl hk hc h (Ext.refl w)) (by unfold maxLen; omega) (by
    have : (0 + l.length) * bytes ≤ 1000000 * 1000000 := Nat.mul_le_mul (by omega) hb
    omega)
  refine ⟨v', w', h1, by simpa using h2, h3.toExt (Ext.refl _) fun q hq => by cases hq⟩
/-- Rows of different types lie in different blocks. -/
theorem row_apart {w : World} {B : Nat} {e t : TypeId} {sz : Nat} {v : Value} {n : Nat} {xs : List Value} (h : w.ownsRow B e sz v n xs) {g : Nat} {cs : Array Value} (hb : Blk w g t cs) (hne : e ≠ t) : ¬ v.ownBlock = some g := fun ha => by
  rcases h.2 with ⟨rfl, _⟩ | ⟨g', cap, cur, rfl, _, hg, _⟩
  · simp [Value.ownBlock] at ha
  · simp [Value.ownBlock] at ha
    subst ha
    have := hg.symm.trans hb
    injection this with this
    injection this with _ this
    exact hne this
theorem slV_of {w : World} {B : Nat} {e : TypeId} {sz : Nat} {v : Value} {n : Nat} {xs : List Value} (h : w.ownsRow B e sz v n xs) : ∃ s : SlV, v = s.val := by
  rcases h.2 with ⟨rfl, _⟩ | ⟨g', cap, cur, rfl, _⟩
  · exact ⟨nilS, rfl⟩
  · exact ⟨⟨_, _, _⟩, rfl⟩
theorem rows_apart {w : World} {B B' : Nat} {e e' : TypeId} {sz sz' : Nat} {v v' : Value} {n n' : Nat} {xs xs' : List Value} (h : w.ownsRow B e sz v n xs) (h' : w.ownsRow B' e' sz' v' n' xs') (hne : e ≠ e') (q : Nat) (hq : v.ownBlock = some q) : ¬ v'.ownBlock = some q := fun hq' => by
  rcases h'.2 with ⟨rfl, _⟩ | ⟨g', cap, cur, rfl, _, hg, _⟩
  · simp [Value.ownBlock] at hq'
  · simp [Value.ownBlock] at hq'
    subst hq'
    exact row_apart h (show Blk w g' e' cur from hg) hne hq
theorem gives_build {P : Program} {o : Oper} {a : Act} {w : World} {ψ : Value → World → Prop} (t : TypeId) (parts : Array (Nat × Operand)) (cells : Array Value) (ho : o.op = .build t parts) (hc : P.built t (parts.map fun (i, x) => (i, a.eval x)).toList = some cells) (h : ψ (.agg cells) w) : Gives P ψ ((execOp a.eval o).run P w) := by
  unfold execOp
  simp only [ho, Sem.run_bind, run_build w t _ cells hc, Result.andThen_ok]
  exact h
theorem snoc_get {α : Type} {l : List α} {x y : α} {i : Nat} (h : (l ++ [x])[i]? = some y) : (i < l.length ∧ l[i]? = some y) ∨ (i = l.length ∧ y = x) := by
  by_cases hi : i < l.length
  · rw [List.getElem?_append_left hi] at h
    exact .inl ⟨hi, h⟩
  · have h3 : i < (l ++ [x]).length := (List.getElem?_eq_some_iff.1 h).1
    rw [List.length_append, List.length_singleton] at h3
    obtain rfl : i = l.length := by omega
    rw [List.getElem?_append_right (Nat.le_refl _), Nat.sub_self] at h
    simp at h
    exact .inr ⟨rfl, h.symm⟩
theorem quiet_load_at {P : Program} {o : Oper} {T : TypeId} {x : Operand} {p : Addr} {cs : Array Value} {a : Act} {C : World → Prop} {K : Act → Prop} (hop : o.op = .load T x) (hx : a.eval x = .pointer (some p)) (hld : ∀ w, C w → (loadVar T p).run P w = .ok (.agg cs) w) (hK : K (a.put o.dst (.agg cs))) : o.quiet P a C K := by
  refine ⟨.agg cs, fun w hw => ?_, hK⟩
  have h1 := hld w hw
  simp only [Oper.quietAt, execOp, hop, hx, Instr.loadAt, Instr.sureAddr, Sem.run_bind, Sem.run_pure, Result.andThen, h1]
  exact ⟨rfl, rfl⟩
/-- append onto an empty row without room. -/
theorem app_empty {P : Program} {t tx ty e : TypeId} {sz bytes : Nat} (hE : Elem P t e sz bytes) {w : World} {B q m : Nat} {x : Value} {news : List Value} (hb : Blk w q e #[]) (hq : B ≤ q) (hs : Src P sz tx x m news w) (h63 : m ≤ maxLen) (hbytes : m * bytes ≤ 140737488355328) :
    ∃ v' w', (Builtin.append_ #[t, tx] ty #[.slice (some ⟨q, 0, none⟩) 0 0, x]).run P w = .ok v' w' ∧ w'.ownsRow B e sz v' m news ∧ Ext w w' := by
  obtain ⟨ht, i, z, hi, hz, rfl, rfl, hzs⟩ := hE
  have hnl := hs.newsLen
  by_cases hm : m = 0
  · subst hm
    obtain rfl : news = [] := List.eq_nil_of_length_eq_zero (by simpa using hnl)
    exact ⟨_, _, run_append_nothing w t tx ty e i ht hi (some ⟨q, 0, none⟩) 0 0 (Nat.le_refl _) x hs, ⟨by simp, .inr ⟨q, 0, #[], rfl, hq, hb, Nat.le_refl _, by unfold maxLen; omega, by simp, by simp⟩⟩, Ext.refl _⟩
  · have hf : (Builtin.firstCells i.size 0 (.slice (some ⟨q, 0, none⟩) 0 0)).run P w.drew = .ok ([] : List Value).toArray w.drew := run_firstCells_some (P := P) w.drew i.size 0 ⟨q, 0, none⟩ 0 0 [] (by simp) (fun j u hu => by simp at hu)
    have hr := run_append_grow_src (P := P) w t tx ty e i z ht hi hz (some ⟨q, 0, none⟩) 0 0 [] hf x m news hs (by omega) (by unfold maxLen at h63; omega) (growslice_fits (by omega) (by simpa using hbytes))
    have hge := grownCap_ge w (0 + m) 0 e
    have hcm : grownCap w (0 + m) 0 e ≤ maxLen := grownCap_le_maxLen w (0 + m) 0 e (by omega)
    have hlen : (([] : List Value) ++ news).length = (0 + m) * i.size := by simp [hnl]
    refine ⟨_, _, hr, ⟨hnl, .inr ⟨w.heap.size, _, _, by rw [Nat.zero_add], by have := hb.lt; omega, (heap_alloc_new w.drew (.cells ((([] : List Value) ++ news).toArray ++ Builtin.zeroCells z.cells (grownCap w (0 + m) 0 e - (0 + m))) e) : _), by simpa using hge, by simpa using hcm, ?_, ?_⟩⟩, ((Ext.refl w).drew').alloc' _⟩
    · simp only [Array.size_append, List.size_toArray, size_zeroCells, hzs, hlen, ← Nat.add_mul]
      simp only [Nat.zero_add] at hge ⊢
      congr 1
      omega
    · simp only [Array.toList_append, List.nil_append]
      rw [← hnl]
      exact List.take_left
theorem row_len {w : World} {B sz n m c : Nat} {e : TypeId} {A : Option Addr} {xs : List Value} (h : w.ownsRow B e sz (.slice A n c) m xs) : n = m := by
  rcases h.2 with ⟨h1, h2⟩ | ⟨g, cap, cur, h1, _⟩
  · injection h1 with _ h1; omega
  · injection h1
theorem run_storeCells_mid {P : Program} {w : World} {g o : Nat} {t : TypeId} {cs : Array Value} {vs : List Value} (h : Blk w g t cs) (hle : o + vs.length ≤ cs.size) (h1 : ∀ v ∈ vs, v.oneCell' = true) : (storeCells ⟨g, o, none⟩ vs).run P w = .ok () (w.setCells g o vs) := by
  have := run_storeCells_cells (P := P) g o vs 0 w (fun j hj => by simpa using (h.there o vs.length hle j hj).1) (fun j hj => by simpa using (h.there o vs.length hle j hj).2) h1
  simpa using this
end Go.Proofs.YtmbgakjkhgdjnaaGreatDoor
