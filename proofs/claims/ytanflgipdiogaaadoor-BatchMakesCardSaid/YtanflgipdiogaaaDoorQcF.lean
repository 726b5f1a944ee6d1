/-
  Messages: what they are; parts of a block that are set.
  batch.Make.
  awake of chapter 19.
-/
import Derived.Test.YtanflgipdiogaaaDoorQcE
import Derived.Deep.RegionHeld3
import Derived.Deep.MidRow
import Derived.Great.BuildSlice
namespace Go.Proofs.YtanflgipdiogaaaDoor
set_option linter.unusedSimpArgs false
set_option linter.unusedVariables false
open Go.RowKit

structure MsgC where
  kind : Int
  s1 : Int
  s2 : Int
  s3 : Int
  r1 : Int
  r2 : Int
  r3 : Int
  up : Bool
  f : SlV
  k1 : SlV
  k2 : SlV
  held : SlV
  seq : Int
  last : Bool
  ents : SlV
  V : List Int
  A : List Int
  not : SlV
  code : Int
  hV : V.length = 65
  hA : A.length = 65
def intsV (l : List Int) : List Value := l.map (Value.int .i64)
theorem intsV_len (l : List Int) : (intsV l).length = l.length := by simp [intsV]
theorem intsV_one (l : List Int) : ∀ v ∈ intsV l, v.oneCell' = true := by
  intro v hv
  obtain ⟨x, _, rfl⟩ := List.mem_map.1 hv
  rfl
def MsgC.head (m : MsgC) : List Value := [.int .i64 m.kind, .int .i64 m.s1, .int .i64 m.s2, .int .i64 m.s3, .int .i64 m.r1, .int .i64 m.r2, .int .i64 m.r3, .bool m.up, m.f.val, m.k1.val, m.k2.val, m.held.val, .int .i64 m.seq, .bool m.last, m.ents.val]
def MsgC.list (m : MsgC) : List Value := m.head ++ (intsV m.V ++ (intsV m.A ++ [m.not.val, .int .i64 m.code]))
def MsgC.arr (m : MsgC) : Array Value := m.list.toArray
theorem msg_head (m : MsgC) : m.head.length = 15 := rfl
theorem msg_len (m : MsgC) : m.list.length = 147 := by
  unfold MsgC.list
  rw [List.length_append, List.length_append, List.length_append, intsV_len, intsV_len, m.hV, m.hA, msg_head]; rfl
theorem msg_arr (m : MsgC) : m.arr.size = 147 := by unfold MsgC.arr; rw [List.size_toArray]; exact msg_len m
theorem msg_oneL (m : MsgC) : ∀ v ∈ m.list, v.oneCell' = true := by
  intro v hv
  unfold MsgC.list at hv
  rcases List.mem_append.1 hv with h | h
  · unfold MsgC.head at h
    simp only [List.mem_cons, List.not_mem_nil, or_false] at h
    rcases h with rfl | rfl | rfl | rfl | rfl | rfl | rfl | rfl | rfl | rfl | rfl | rfl | rfl | rfl | rfl <;> rfl
  rcases List.mem_append.1 h with h | h
  · exact intsV_one _ v h
  rcases List.mem_append.1 h with h | h
  · exact intsV_one _ v h
  · simp only [List.mem_cons, List.not_mem_nil, or_false] at h
    rcases h with rfl | rfl <;> rfl
theorem msg_coded : Coded MsgC.list 147 := ⟨msg_len, msg_oneL⟩
theorem msg_one (m : MsgC) : m.arr.all (·.oneCell') = true := all_oneCell_toArray (msg_oneL m)
theorem msg_size : (Tryd.prog.info? 62).map (·.size) = some 147 := by kernel_rfl
def nilS : SlV := ⟨none, 0, 0⟩
def msgZ : MsgC := ⟨0, 0, 0, 0, 0, 0, 0, false, nilS, nilS, nilS, nilS, 0, false, nilS, vec0, vec0, nilS, 0, by simp [vec0], by simp [vec0]⟩
theorem msg_zero : (Tryd.prog.info? 62).map (fun i => (i.zero, i.size)) = some (some (.agg msgZ.arr), 147) := by kernel_rfl
theorem msg_info : (Tryd.prog.info? 62).map (fun i => (i.zero, i.size, i.bytes)) = some (some (.agg msgZ.arr), 147, 1272) := by kernel_rfl
/-- The ith message that Make makes; nv: what the last one has as Not. -/
def outM (M : MsgC) (n : Nat) (nv : SlV) (i : Nat) (e : SlV) : MsgC :=
  ⟨2, M.s1, M.s2, M.s3, M.r1, M.r2, M.r3, false, nilS, nilS, nilS, nilS, i, decide (i + 1 = n), e, if i + 1 = n then M.V else vec0, if i + 1 = n then M.A else vec0, if i + 1 = n then nv else nilS, 0, by split; exact M.hV; simp [vec0], by split; exact M.hA; simp [vec0]⟩
/-- .. ere it is known to be the last. -/
def preM (M : MsgC) (i : Nat) (e : SlV) : MsgC := ⟨2, M.s1, M.s2, M.s3, M.r1, M.r2, M.r3, false, nilS, nilS, nilS, nilS, i, false, e, vec0, vec0, nilS, 0, by simp [vec0], by simp [vec0]⟩
theorem outM_pre (M : MsgC) (n : Nat) (nv : SlV) (i : Nat) (e : SlV) (h : i + 1 ≠ n) : outM M n nv i e = preM M i e := by
  unfold outM preM
  simp only [decide_eq_false h, if_neg h]
theorem pre_built (M : MsgC) (i : Nat) (e : SlV) : Tryd.prog.built 62 [(0, .int .i64 2), (1, .agg #[.int .i64 M.s1, .int .i64 M.s2, .int .i64 M.s3]), (2, .agg #[.int .i64 M.r1, .int .i64 M.r2, .int .i64 M.r3]), (7, .int .i64 i), (9, .slice e.a e.n e.c)] = some (preM M i e).arr := by kernel_rfl
theorem run_build_rows {P : Program} {t e : TypeId} {sz bytes : Nat} (hE : Elem P t e sz bytes) (w : World) (xs : List (Array Value)) (hx : ∀ x ∈ xs, x.size = sz) (hs : 0 < sz) (hn : xs ≠ []) (hsm : xs.length * sz ≤ 16777216) (parts : Array (Nat × Value)) (hp : parts.toList = ((xs.map Value.agg).zipIdx 0).map fun x => (x.2, x.1)) : (Instr.buildSlice t xs.length parts).run P w = .ok (.slice (some ⟨w.heap.size, 0, none⟩) xs.length xs.length) (w.alloc (.cells (xs.flatMap Array.toList).toArray e)) := by
  obtain ⟨ht, i, z, hi, hz, rfl, rfl, hzs⟩ := hE
  have hpos : 0 < xs.length := List.length_pos_iff.2 hn
  have h0 : 0 < xs.length * i.size := Nat.mul_pos hpos hs
  refine run_buildSlice w t e xs.length parts _ i z ht hi hz (by show ¬ xs.length * i.size > 16777216; omega) (by omega) ?_
  rw [hp]
  have := Great.fill_whole hs (xs.map Value.agg) ((Array.range (xs.length * i.size)).map (z.cells[· % z.cells.size]!)) (fun v hv => by
    obtain ⟨x, hx', rfl⟩ := List.mem_map.1 hv
    exact hx x hx') (by simp)
  rw [List.flatMap_map] at this
  exact this
theorem build_msg (w : World) (p : Array Value) (hp : p.size = 147) : (Instr.buildSlice 64 1 #[(0, .agg p)]).run Tryd.prog w = .ok (.slice (some ⟨w.heap.size, 0, none⟩) 1 1) (w.alloc (.cells p 62)) := by
  obtain ⟨i0, h0, h1, h2, h3⟩ := info_parts msg_info
  have := run_build_rows (t := 64) (e := 62) (sz := 147) (bytes := 1272) ⟨Tryd.underlying64, i0, _, h0, h1, h2, h3, msg_arr msgZ⟩ w [p] (fun x hx => by rw [List.mem_singleton.1 hx]; exact hp) (by omega) (by simp) (by simp) #[(0, .agg p)] rfl
  simpa using this
theorem Blk.setCells {g : Nat} {t : TypeId} : ∀ (vs : List Value) {w : World} {cs : Array Value} (_ : Blk w g t cs) (k : Nat) (_ : k + vs.length ≤ cs.size), Blk (w.setCells g k vs) g t (cs.toList.take k ++ (vs ++ cs.toList.drop (k + vs.length))).toArray
  | [], w, cs, h, k, hk => by
    have e : (cs.toList.take k ++ ([] ++ cs.toList.drop (k + ([] : List Value).length))).toArray = cs := by simp
    rw [e]; exact h
  | v :: vs, w, cs, h, k, hk => by
    rw [List.length_cons] at hk
    have := Blk.setCells vs (h.set k v) (k + 1) (by simp; omega)
    have e : ((cs.setIfInBounds k v).toList.take (k + 1) ++ (vs ++ (cs.setIfInBounds k v).toList.drop (k + 1 + vs.length))) = cs.toList.take k ++ (v :: vs ++ cs.toList.drop (k + (v :: vs).length)) := by
      rw [Array.toList_setIfInBounds]
      have hkl : k < cs.toList.length := by rw [Array.length_toList]; omega
      rw [List.take_succ_eq_append_getElem (by rw [List.length_set]; exact hkl), List.getElem_set_self, List.take_set_of_le (Nat.le_refl _), List.drop_set_of_lt (by omega), List.length_cons, List.append_assoc, show k + 1 + vs.length = k + (vs.length + 1) by omega]
      rfl
    rw [e] at this
    exact this
theorem Keep.setCells {S : Nat → Prop} {a : World} {g : Nat} (hg : S g ∨ a.heap.size ≤ g) : ∀ (vs : List Value) {b : World} (_ : Keep S a b) (k : Nat), Keep S a (b.setCells g k vs)
  | [], _, h, _ => h
  | v :: vs, b, h, k => Keep.setCells hg vs (h.setCell (p := ⟨g, k, none⟩) hg v) (k + 1)
theorem Blk.rangeAt {w : World} {g : Nat} {t : TypeId} {cs : Array Value} (h : Blk w g t cs) (o : Nat) (xs : List Value) (hx : ∀ (j : Nat) v, xs[j]? = some v → cs[o + j]? = some v) : w.rangeAt g o xs := fun j v hv => h.cell (hx j v hv)
theorem Blk.there {w : World} {g : Nat} {t : TypeId} {cs : Array Value} (h : Blk w g t cs) (o n : Nat) (hn : o + n ≤ cs.size) : w.there g o n := fun j hj => ⟨by rw [h.cell (v := cs[o + j]'(by omega)) (by rw [Array.getElem?_eq_getElem (by omega)])]; rfl, h.frozen _⟩
theorem msg_V (m : MsgC) (j : Nat) (v : Value) (h : (intsV m.V)[j]? = some v) : m.arr[15 + j]? = some v := by
  have hj := (List.getElem?_eq_some_iff.1 h).1
  unfold MsgC.arr MsgC.list
  rw [List.getElem?_toArray, List.getElem?_append_right (by rw [msg_head]; omega), msg_head, show 15 + j - 15 = j by omega, List.getElem?_append_left hj]
  exact h
theorem msg_A (m : MsgC) (j : Nat) (v : Value) (h : (intsV m.A)[j]? = some v) : m.arr[80 + j]? = some v := by
  have hj := (List.getElem?_eq_some_iff.1 h).1
  unfold MsgC.arr MsgC.list
  rw [List.getElem?_toArray, List.getElem?_append_right (by rw [msg_head]; omega), msg_head, List.getElem?_append_right (by rw [intsV_len, m.hV]; omega), intsV_len, m.hV, show 80 + j - 15 - 65 = j by omega, List.getElem?_append_left hj]
  exact h
theorem msg_end (m : MsgC) (j : Nat) : m.arr[145 + j]? = ([m.not.val, .int .i64 m.code] : List Value)[j]? := by
  unfold MsgC.arr MsgC.list
  rw [List.getElem?_toArray, List.getElem?_append_right (by rw [msg_head]; omega), msg_head, List.getElem?_append_right (by rw [intsV_len, m.hV]; omega), intsV_len, m.hV, List.getElem?_append_right (by rw [intsV_len, m.hA]; omega), intsV_len, m.hA, show 145 + j - 15 - 65 - 65 = j by omega]
theorem msg_hd (m : MsgC) (j : Nat) (hj : j < 15) : m.arr[j]? = m.head[j]? := by
  unfold MsgC.arr MsgC.list
  rw [List.getElem?_toArray, List.getElem?_append_left (by rw [msg_head]; exact hj)]
end Go.Proofs.YtanflgipdiogaaaDoor
namespace Go.Proofs.YtanflgipdiogaaaDoor
set_option linter.unusedSimpArgs false
set_option linter.unusedVariables false
open Go.RowKit

theorem msg_elem : Elem Tryd.prog 64 62 147 1272 := by
  obtain ⟨i0, h0, h1, h2, h3⟩ := info_parts msg_info
  exact ⟨Tryd.underlying64, i0, _, h0, h1, h2, h3, msg_arr msgZ⟩
theorem entinfo : (Tryd.prog.info? 44).map (fun i => (i.zero, i.size, i.bytes)) = some (some (.agg entZ), 21, 192) := by kernel_rfl
theorem ent_elem : Elem Tryd.prog 22 44 21 192 := by
  obtain ⟨i0, h0, h1, h2, h3⟩ := info_parts entinfo
  exact ⟨Tryd.underlying22, i0, _, h0, h1, h2, h3, rfl⟩
theorem nv_coded : Coded Ver.cells 2 := ⟨fun _ => rfl, fun a u hu => by simp [Ver.cells] at hu; rcases hu with rfl | rfl <;> rfl⟩
theorem nvinfo : (Tryd.prog.info? 34).map (fun i => (i.zero, i.size, i.bytes)) = some (some (.agg #[.int .i64 0, .int .i64 0]), 2, 16) := by kernel_rfl
theorem nv_elem : Elem Tryd.prog 60 34 2 16 := by
  obtain ⟨i0, h0, h1, h2, h3⟩ := info_parts nvinfo
  exact ⟨Tryd.underlying60, i0, _, h0, h1, h2, h3, rfl⟩
/-- append onto nil. -/
theorem app_nil {α : Type} {code : α → List Value} {sz : Nat} {P : Program} {t tx ty e : TypeId} {bytes : Nat} (hE : Elem P t e sz bytes) (hc : Coded code sz) {tb : TypeId} (hk : P.underlying tx = some (.slice tb)) {w : World} {l : List α} {v : Value} (h : Sl w sz v (l.map code)) (hl : l.length ≤ 1000000) (hb : bytes ≤ 1000000) :
    ∃ v' w', (Builtin.append_ #[t, tx] ty #[.slice none 0 0, v]).run P w = .ok v' w' ∧ w'.ownsRow w.heap.size e sz v' l.length (l.map code).flatten ∧ Ext w w' := by
  obtain ⟨v', w', h1, h2, h3, _, _⟩ := app_row (ty := ty) hE (ownsRow_nil w w.heap.size e sz) (Nat.le_refl _) (src_of_sl hk hc h (Ext.refl w)) (by unfold maxLen; omega) (by
    have : (0 + l.length) * bytes ≤ 1000000 * 1000000 := Nat.mul_le_mul (by omega) hb
    omega)
  refine ⟨v', w', h1, by simpa using h2, h3.toExt (Ext.refl _) fun q hq => by cases hq⟩
/-- Rows of different types lie in different blocks. -/
theorem row_apart {w : World} {B : Nat} {e t : TypeId} {sz : Nat} {v : Value} {n : Nat} {xs : List Value} (h : w.ownsRow B e sz v n xs) {g : Nat} {cs : Array Value} (hb : Blk w g t cs) (hne : e ≠ t) : ¬ v.ownBlock = some g := fun ha => by
  rcases h.2 with ⟨rfl, _⟩ | ⟨g', cap, cur, rfl, _, hg, _⟩
  · simp [Value.ownBlock] at ha
  · simp [Value.ownBlock] at ha
    subst ha
    have := hg.symm.trans hb
    injection this with this
    injection this with _ this
    exact hne this
theorem slV_of {w : World} {B : Nat} {e : TypeId} {sz : Nat} {v : Value} {n : Nat} {xs : List Value} (h : w.ownsRow B e sz v n xs) : ∃ s : SlV, v = s.val := by
  rcases h.2 with ⟨rfl, _⟩ | ⟨g', cap, cur, rfl, _⟩
  · exact ⟨nilS, rfl⟩
  · exact ⟨⟨_, _, _⟩, rfl⟩
/-- The messages that Make has made. -/
def outL (M : MsgC) (n : Nat) (nv : SlV) (es : List SlV) : List MsgC := es.mapIdx fun i e => outM M n nv i e
theorem outL_len (M : MsgC) (n : Nat) (nv : SlV) (es : List SlV) : (outL M n nv es).length = es.length := by simp [outL]
theorem outL_snoc (M : MsgC) (n : Nat) (nv : SlV) (es : List SlV) (e : SlV) : outL M n nv (es ++ [e]) = outL M n nv es ++ [outM M n nv es.length e] := by
  unfold outL
  rw [List.mapIdx_concat]
theorem outL_nv (M : MsgC) (n : Nat) (nv nv' : SlV) (es : List SlV) (h : es.length < n) : outL M n nv es = outL M n nv' es := by
  apply List.ext_getElem
  · rw [outL_len, outL_len]
  · intro i h1 h2
    have h3 : i < es.length := by rw [outL_len] at h1; exact h1
    show (es.mapIdx fun i e => outM M n nv i e)[i]'(by simpa using h3) = (es.mapIdx fun i e => outM M n nv' i e)[i]'(by simpa using h3)
    rw [List.getElem_mapIdx, List.getElem_mapIdx, outM_pre _ _ _ _ _ (by omega), outM_pre _ _ _ _ _ (by omega)]
/-- Rows of one's own that read as these rows of entries. -/
def EsAt (w : World) (es : List SlV) (segs : List (List EntI)) : Prop := es.length = segs.length ∧ ∀ (i : Nat) (s : SlV) (t : List EntI), es[i]? = some s → segs[i]? = some t → w.ownsRow 0 44 21 s.val t.length (t.map EntI.cells).flatten
theorem rows_apart {w : World} {B B' : Nat} {e e' : TypeId} {sz sz' : Nat} {v v' : Value} {n n' : Nat} {xs xs' : List Value} (h : w.ownsRow B e sz v n xs) (h' : w.ownsRow B' e' sz' v' n' xs') (hne : e ≠ e') (q : Nat) (hq : v.ownBlock = some q) : ¬ v'.ownBlock = some q := fun hq' => by
  rcases h'.2 with ⟨rfl, _⟩ | ⟨g', cap, cur, rfl, _, hg, _⟩
  · simp [Value.ownBlock] at hq'
  · simp [Value.ownBlock] at hq'
    subst hq'
    exact row_apart h (show Blk w g' e' cur from hg) hne hq
theorem EsAt.keep {w w' : World} {es : List SlV} {segs : List (List EntI)} (h : EsAt w es segs) {B sz n : Nat} {v : Value} {xs : List Value} {t : TypeId} (hr : w.ownsRow B t sz v n xs) (hne : 44 ≠ t) (hk : Keep (fun q => v.ownBlock = some q) w w') : EsAt w' es segs :=
  ⟨h.1, fun i s t' h1 h2 => ownsRow_keep (h.2 i s t' h1 h2) hk (fun q hq => rows_apart (h.2 i s t' h1 h2) hr hne q hq)⟩
theorem EsAt.ext {w w' : World} {es : List SlV} {segs : List (List EntI)} (h : EsAt w es segs) (hk : Ext w w') : EsAt w' es segs :=
  ⟨h.1, fun i s t' h1 h2 => ownsRow_ext (h.2 i s t' h1 h2) hk⟩
theorem EsAt.snoc {w : World} {es : List SlV} {segs : List (List EntI)} (h : EsAt w es segs) {s : SlV} {t : List EntI} (hs : w.ownsRow 0 44 21 s.val t.length (t.map EntI.cells).flatten) : EsAt w (es ++ [s]) (segs ++ [t]) := by
  refine ⟨by rw [List.length_append, List.length_append, h.1]; rfl, fun i s' t' h1 h2 => ?_⟩
  by_cases hi : i < es.length
  · rw [List.getElem?_append_left hi] at h1
    rw [List.getElem?_append_left (by rw [← h.1]; exact hi)] at h2
    exact h.2 i s' t' h1 h2
  · have h3 : i < (es ++ [s]).length := (List.getElem?_eq_some_iff.1 h1).1
    rw [List.length_append, List.length_singleton] at h3
    obtain rfl : i = es.length := by omega
    rw [List.getElem?_append_right (Nat.le_refl _), Nat.sub_self] at h1
    rw [List.getElem?_append_right (by rw [h.1]; exact Nat.le_refl _), h.1, Nat.sub_self] at h2
    simp at h1 h2
    subst h1 h2
    exact hs
theorem take_snoc {α : Type} {l : List α} {k : Nat} (h : k < l.length) : l.take (k + 1) = l.take k ++ [l[k]] := List.take_succ_eq_append_getElem h
theorem flat_mem {α : Type} : ∀ (L : List (List α)), ∀ s ∈ L, s.length ≤ L.flatten.length
  | [], s, hs => by cases hs
  | x :: L, s, hs => by
    rw [List.flatten_cons, List.length_append]
    rcases List.mem_cons.1 hs with rfl | hs
    · omega
    · have := flat_mem L s hs; omega
theorem cutL_len (limit : Int) (l : List EntI) : ∀ s ∈ cutL limit l, s.length ≤ l.length := fun s hs => by
  have h : (cutL limit l).flatten.length = l.length := by rw [cutL_flat]
  rw [← h]
  exact flat_mem _ s hs
theorem gives_build {P : Program} {o : Oper} {a : Act} {w : World} {ψ : Value → World → Prop} (t : TypeId) (parts : Array (Nat × Operand)) (cells : Array Value) (ho : o.op = .build t parts) (hc : P.built t (parts.map fun (i, x) => (i, a.eval x)).toList = some cells) (h : ψ (.agg cells) w) : Gives P ψ ((execOp a.eval o).run P w) := by
  unfold execOp
  simp only [ho, Sem.run_bind, run_build w t _ cells hc, Result.andThen_ok]
  exact h
theorem zero62 : Tryd.zeroCells62 = msgZ.arr := by kernel_rfl
theorem cutL_num (limit : Int) (l : List EntI) : (cutL limit l).length ≤ l.length + 1 := by
  have h8 := congrArg List.length (foldC_parts limit l)
  rw [List.length_append] at h8
  have hne := flat_len _ (foldC_ne limit l ([], [], 0) (fun s hs => by cases hs))
  have hne : (foldC limit l).1.length ≤ (foldC limit l).1.flatten.length := hne
  show ((foldC limit l).1 ++ [(foldC limit l).2.1]).length ≤ _
  rw [List.length_append, List.length_singleton]
  omega
theorem cutL_pos (limit : Int) (l : List EntI) : 0 < (cutL limit l).length := by
  show 0 < ((foldC limit l).1 ++ [(foldC limit l).2.1]).length
  rw [List.length_append, List.length_singleton]
  omega
/-- What Make gives: the messages, whose entries are these batches. -/
def MsgsAt (w : World) (u : Value) (M : MsgC) (segs : List (List EntI)) (nots : List Ver) : Prop := ∃ (es : List SlV) (nv : SlV), es.length = segs.length ∧ (∀ (i : Nat) (s : SlV) (t : List EntI), es[i]? = some s → segs[i]? = some t → Sl w 21 s.val (t.map EntI.cells)) ∧ Sl w 2 nv.val (nots.map Ver.cells) ∧ Sl w 147 u ((outL M segs.length nv es).map MsgC.list)
theorem drop_mid {α : Type} {a b c : List α} {n : Nat} (h : a.length + b.length = n) : (a ++ (b ++ c)).drop n = c := by
  rw [← List.append_assoc, List.drop_left' (by rw [List.length_append]; exact h)]
theorem take_mid {α : Type} {a b c : List α} {n : Nat} (h : a.length + b.length = n) : (a ++ (b ++ c)).take n = a ++ b := by
  rw [← List.append_assoc, List.take_left' (by rw [List.length_append]; exact h)]
theorem drop_mid3 {α : Type} {a b c d : List α} {n : Nat} (h : a.length + b.length + c.length = n) : (a ++ (b ++ (c ++ d))).drop n = d := by
  rw [← List.append_assoc a, drop_mid (by rw [List.length_append]; exact h)]
theorem last_arr (M : MsgC) (n : Nat) (nv : SlV) (k : Nat) (e : SlV) (h : k + 1 = n) (p1 p2 p3 : Array Value) (h1 : p1 = (preM M k e).arr.setIfInBounds 13 (.bool true)) (h2 : p2 = (p1.toList.take 15 ++ (intsV M.V ++ p1.toList.drop (15 + (intsV M.V).length))).toArray) (h3 : p3 = (p2.toList.take 80 ++ (intsV M.A ++ p2.toList.drop (80 + (intsV M.A).length))).toArray) : p3.setIfInBounds 145 nv.val = (outM M n nv k e).arr := by
  have lV : (intsV M.V).length = 65 := by rw [intsV_len]; exact M.hV
  have lA : (intsV M.A).length = 65 := by rw [intsV_len]; exact M.hA
  have l0 : (intsV vec0).length = 65 := by rw [intsV_len]; simp [vec0]
  obtain ⟨hd, hhd⟩ : ∃ hd, (outM M n nv k e).head = hd := ⟨_, rfl⟩
  have lh : hd.length = 15 := by rw [← hhd]; rfl
  have e1 : p1.toList = hd ++ (intsV vec0 ++ (intsV vec0 ++ [nilS.val, .int .i64 0])) := by
    rw [h1, Array.toList_setIfInBounds]
    have : (preM M k e).arr.toList = (preM M k e).head ++ (intsV vec0 ++ (intsV vec0 ++ [nilS.val, .int .i64 0])) := rfl
    rw [this, List.set_append_left _ _ (by rw [msg_head]; omega), ← hhd]
    congr 1
    unfold MsgC.head preM outM
    simp only [decide_eq_true h]
    rfl
  have e2 : p2.toList = hd ++ (intsV M.V ++ (intsV vec0 ++ [nilS.val, .int .i64 0])) := by
    rw [h2, e1, lV]
    show List.take 15 _ ++ _ = _
    rw [List.take_left' lh, drop_mid (by rw [lh, l0])]
  have e3 : p3.toList = hd ++ (intsV M.V ++ (intsV M.A ++ [nilS.val, .int .i64 0])) := by
    rw [h3, e2, lA]
    show List.take 80 _ ++ _ = _
    rw [take_mid (by rw [lh, lV]), drop_mid3 (by rw [lh, lV, l0]), List.append_assoc]
  apply Array.ext'
  rw [Array.toList_setIfInBounds, e3, List.set_append_right _ _ (by rw [lh]; omega), lh, List.set_append_right _ _ (by rw [lV]; omega), lV, List.set_append_right _ _ (by rw [lA]; omega), lA]
  show _ = (outM M n nv k e).head ++ (intsV (outM M n nv k e).V ++ (intsV (outM M n nv k e).A ++ [(outM M n nv k e).not.val, .int .i64 0]))
  rw [hhd, show (outM M n nv k e).V = M.V from if_pos h, show (outM M n nv k e).A = M.A from if_pos h, show (outM M n nv k e).not = nv from if_pos h]
  rfl
theorem wp_app {P : Program} {o : Oper} {a : Act} {K : Act → World → Prop} {Q : Exit → Act → World → Prop} {w w' : World} (s x : Operand) (t tx : TypeId)
    (ho : o.op = .call { callee := .builtin .append, args := #[s, x], argTypes := #[t, tx] }) {v u v' : Value} (hv : a.eval s = v) (hx : a.eval x = u)
    (hrun : (Builtin.append_ #[t, tx] o.type #[v, u]).run P w = .ok v' w') (hK : K (a.put o.dst v') w') : Oper.wp P o a w K Q := by
  unfold Oper.wp execOp
  simp only [ho, resolve, invoke, builtin, Sem.run_bind, Sem.run_pure, Result.andThen_ok, List.map_toArray, List.map_cons, List.map_nil, hv, hx, hrun]
  exact hK
attribute [-simp] Tryd.isAgg62 Tryd.sizeOf62
attribute [-go_sem] Go.Instr.buildSlice
set_option maxRecDepth 100000 in
set_option maxHeartbeats 8000000 in
theorem make_c (w : World) (M : MsgC) (v : Value) (l : List EntI) (nots : List Ver) (limit : Int) (m : Int) (hm : w.cell? ⟨0, 0, none⟩ = some (.int .i64 m)) (h : Sl w 21 v (l.map EntI.cells)) (hN : Sl w 2 M.not.val (nots.map Ver.cells)) (hn : nots.length ≤ 1000) (hl : l.length ≤ 100) (hok : ∀ e ∈ l, EntOk e) (hlim : 1 ≤ limit ∧ limit ≤ 4096) : Calls Tryd.prog 16 #[.agg M.arr, v, .int .i64 limit] w (fun en w' => (l.all hasB = false ∧ en = .returned (.tuple #[.slice none 0 0, .int .i64 2]) ∧ Ext w w') ∨ (l.all hasB = true ∧ ∃ u, en = .returned (.tuple #[u, .int .i64 0]) ∧ MsgsAt w' u M (cutL limit l) nots ∧ Ext w w')) := by
  have HCut := fun W (hW : Ext w W) => hid (cut_c W v l limit m (hW.cell hm) (h.ext hW) hl hok hlim)
  have HN := hid hN
  clear hN hok h
  have HE0 := hid (Ext.alloc w (.cells M.arr 62))
  have HB0 := hid (Blk.new w 62 M.arr)
  go_enter Tryd.func16, Tryd.ntmps16
  go_wp2_with fail
  generalize w.alloc (.cells M.arr 62) = w0 at HE0 HB0 ⊢
  refine ((HCut _ HE0.out).out).mono ?_
  rintro en w1 (⟨hno, rfl, x1⟩ | ⟨hyes, u, vs, rfl, hu, hS, x1⟩)
  · have HE1 := hid (HE0.out.trans x1)
    clear HB0 HE0 HCut HN x1
    have HNo := hid hno
    clear hno
    go_wp2_with fail
    go_ret2
    exact .inl ⟨HNo.out, rfl, HE1.out⟩
  · have HE1 := hid (HE0.out.trans x1)
    have HB1 := hid (HB0.out.ext x1)
    have HS := hid hS
    have HY := hid hyes
    have HL := hid (cutL_len limit l)
    obtain ⟨A, c, rfl, u1, u2, u3⟩ := sl_get hu
    have HU := hid u3
    unfold maxLen at u2
    clear HB0 HE0 HCut x1 hS hyes hu u3
    go_wp2_with fail
    have hlen := HS.out.1
    have HSeg := hid HS.out.2
    have hsl := HL.out
    have hnum := cutL_num limit l
    have HPos := hid (cutL_pos limit l)
    clear HL
    have hvn : vs.length ≤ 101 := by rw [hlen]; omega
    clear hnum
    generalize hcut : cutL limit l = segs at HS HSeg hlen hsl HPos
    have HCt := hid hcut
    clear hcut
    go_loopw [10, 25] (fun s10 s25 wr => ∃ (k : Nat) (es : List SlV) (nv : SlV), k ≤ vs.length ∧ es.length = k ∧ s25 = .int .i64 k ∧ Hid (Ext w1 wr) ∧ Hid (wr.ownsRow w1.heap.size 62 147 s10 (outL M vs.length nv es).length ((outL M vs.length nv es).map MsgC.list).flatten) ∧ Hid (EsAt wr es (segs.take k)) ∧ Hid (k = vs.length → 0 < vs.length → wr.ownsRow 0 34 2 nv.val nots.length (nots.map Ver.cells).flatten)) (fun _ s25 _ => vs.length - (intOf s25).toNat)
    case atStart => exact ⟨0, [], nilS, by omega, rfl, rfl, Ext.refl _, ownsRow_nil _ _ _ _, ⟨by simp, fun i s t h => by simp at h⟩, fun h1 h2 => by omega⟩
    case round =>
      obtain ⟨k, es, nv, hk, hes, rfl, hE, hR, hEs, hNv⟩ := hrel
      by_cases hlt : k < vs.length
      · have e1 : decide ((k : Int) < vs.length) = true := decide_eq_true (by omega)
        have e1' : decide (k < vs.length) = true := decide_eq_true hlt
        obtain ⟨b, o, rfl, lb, hcell⟩ := HU.out (by omega)
        have c0 : wr.cell? ⟨b, o + k, none⟩ = some (.slice vs[k].a vs[k].n vs[k].c) := by
          have := hE.out.cell (hcell k hlt 0 (.slice vs[k].a vs[k].n vs[k].c) rfl)
          simpa using this
        have hks : k < segs.length := by omega
        have HSk := hid ((HSeg.out k vs[k] segs[k] (by simp [hlt]) (by simp [hks])).ext hE.out)
        have hsk := hsl segs[k] (List.getElem_mem hks)
        have HT := hid (take_snoc hks)
        have HBr := hid (HB1.out.ext hE.out)
        have HEr := hid (HE1.out.trans hE.out)
        have HNr := hid (HN.out.ext HEr.out)
        have HLen := hid hlen
        clear hcell HU HSeg lb hsl
        generalize vs[k] = sv at c0 HSk
        generalize segs[k] = seg at HSk hsk HT
        clear hks hlen
        obtain ⟨sa, sn, sc⟩ := sv
        obtain ⟨a9, c9, hse, _⟩ := sl_get HSk.out
        have hsn : sn = seg.length := by injection hse
        subst hsn
        have q1 := HBr.out.cell (msg_hd M 1 (by omega))
        have q2 := HBr.out.cell (msg_hd M 2 (by omega))
        have q3 := HBr.out.cell (msg_hd M 3 (by omega))
        have q4 := HBr.out.cell (msg_hd M 4 (by omega))
        have q5 := HBr.out.cell (msg_hd M 5 (by omega))
        have q6 := HBr.out.cell (msg_hd M 6 (by omega))
        have lq := HBr.out.lt
        go_wp2_with fail
        clear hse
        have HL1 : Hid (seg.length ≤ 1000000) := by unfold Hid; omega
        refine wp_region_last (Rel.ext) (pre := ?pre1) (z := ?z1) ?hpre1 ?hz1 (Ext.steady wr) (by kernel_rfl) (by kernel_rfl) (by kernel_rfl) (by kernel_rfl) ?_
        case hpre1 => (simp only [List.dropLast_cons_cons, List.dropLast_singleton]; first | done | exact rfl)
        case hz1 => (simp only [List.getLast?_cons_cons, List.getLast?_singleton]; first | done | exact rfl)
        repeat (first
          | (refine AWq.val rfl rfl rfl rfl (fun K hK => ?_); go_big_quiet_op; refine hK _ ?_; clear hK K)
          | (refine AWq.skip rfl rfl rfl ?_; simp only [Act.put, List.setIfInBounds_toArray, List.set_cons_succ, List.set_cons_zero])
          | (refine AWq.opQ (fun u W => W.ownsRow wr.heap.size 44 21 u seg.length (seg.map EntI.cells).flatten) (fun u a b he h => ownsRow_ext h he) rfl (fun a wc hc hl' => ⟨rfl, ?_⟩) ?_; (· (have e35 : a.tmps.getD 35 undef = .slice sa seg.length sc := hl' 35 (of_decide_eq_true (by kernel_rfl)); obtain ⟨v', w', hr', hO, hX⟩ := app_nil (ty := 22) ent_elem ent_coded Tryd.underlying22 (HSk.out.ext hc) HL1.out (by omega); exact gives_app (a := a) (s := .const (.slice none 0 0)) (x := .tmp 35) rfl rfl e35 hr' ⟨ownsRow_mono hO hc.size, hX⟩)))
          | (refine AWq.opV (fun u W => ∃ g, u = .pointer (some ⟨g, 0, none⟩) ∧ Blk W g 62 msgZ.arr ∧ wr.heap.size ≤ g) (fun u a b he h => h.imp fun g h => ⟨h.1, h.2.1.ext he, h.2.2⟩) rfl rfl rfl rfl (fun wc hc => ?_) ?_; (· (have hcs := hc.size; clear hc; go_simp; dsimp only [Gives]; rw [zero62]; exact ⟨⟨_, rfl, Blk.new _ _ _, hcs⟩, Ext.alloc _ _⟩)))
          | (refine AWq.opQ (fun u W => ∃ e : SlV, u = .agg (preM M k e).arr ∧ W.ownsRow wr.heap.size 44 21 e.val seg.length (seg.map EntI.cells).flatten) (fun u a b he h => h.imp fun e h => ⟨h.1, ownsRow_ext h.2 he⟩) rfl (fun a wc hc hl' => ⟨rfl, ?_⟩) ?_; (· (have e31 : a.tmps.getD 31 undef = .agg #[.int .i64 M.s1, .int .i64 M.s2, .int .i64 M.s3] := hl' 31 (of_decide_eq_true (by kernel_rfl)); have e33 : a.tmps.getD 33 undef = .agg #[.int .i64 M.r1, .int .i64 M.r2, .int .i64 M.r3] := hl' 33 (of_decide_eq_true (by kernel_rfl)); have e34 : a.tmps.getD 34 undef = .int .i64 k := hl' 34 (of_decide_eq_true (by kernel_rfl)); have e36 : wc.ownsRow wr.heap.size 44 21 (a.tmps.getD 36 undef) seg.length (seg.map EntI.cells).flatten := hl' 36 (of_decide_eq_true (by kernel_rfl)); obtain ⟨e, e36'⟩ := slV_of e36; rw [e36'] at e36; refine gives_build 62 #[(0, .const (.int .i64 2)), (1, .tmp 31), (2, .tmp 33), (7, .tmp 34), (9, .tmp 36)] (preM M k e).arr rfl ?_ ⟨⟨e, rfl, e36⟩, Ext.refl _⟩; (have f31 : a.eval (.tmp 31) = _ := e31); (have f33 : a.eval (.tmp 33) = _ := e33); (have f34 : a.eval (.tmp 34) = _ := e34); (have f36 : a.eval (.tmp 36) = _ := e36'); (have f0 : a.eval (.const (.int .i64 2)) = .int .i64 2 := rfl); simp only [List.map_toArray, List.map_cons, List.map_nil, f31, f33, f34, f36, f0]; exact pre_built M k e))))
        refine AWq.last rfl rfl rfl (fun w2 h2 => ?_)
        simp only [closeAny, Act.put, List.setIfInBounds_toArray, List.set_cons_succ, List.set_cons_zero]
        rintro _ ⟨g, rfl, hbg, hg⟩ _ ⟨e, rfl, he⟩ _ _
        have HB2 := hid hbg
        have HEn := hid he
        have HG2 := hid hg
        have HX2 := hid h2
        clear hbg he hg h2 q1 q2 q3 q4 q5 q6 c0
        have HP := hid (msg_arr (preM M k e))
        have HP1 := hid (msg_one (preM M k e))
        have HZ := hid (msg_arr msgZ)
        have lg := HB2.out.lt
        have HPd : ∃ p, (preM M k e).arr = p := ⟨_, rfl⟩
        obtain ⟨p, hp⟩ := HPd
        rw [hp] at HP HP1 ⊢
        have Hp := hid hp
        clear hp
        go_wp2_with fail
        simp only [Tryd.sizeOf62, Result.andThen, ↓reduceIte, run_storeCells_blk HB2.out (by rw [HP.out]; exact msg_size) (by rw [HP.out, HZ.out]) HP1.out, HP.out]
        rw [Oper.upon_skip]
        have HB3 := hid (HB2.out.setRow p)
        have HE3 : Hid (Ext wr (w2.setRow g p)) := HX2.out.setRow HG2.out p
        have HEn3 := hid (ownsRow_keep HEn.out (Keep.setRow (S := fun q => q = g) (Keep.refl _ w2) (.inl rfl) p) (fun q hq hS => row_apart HEn.out HB2.out (by decide) (by rw [← hS]; exact hq)))
        generalize w2.setRow g p = w3 at HB3 HE3 HEn3 ⊢
        clear HB2 HX2 HEn HZ lg HBr
        by_cases hlast : k + 1 = vs.length
        · have dl : ((k : Int) == (vs.length : Int) - 1) = true := by simp only [beq_iff_eq]; omega
          have lg := HB3.out.lt
          have HBm := hid (HB1.out.ext (hE.out.trans HE3.out))
          have hu := Tryd.underlying59
          have hi1 : (Tryd.prog.info? 59).map (·.size) = some (intsV M.V).length := by rw [intsV_len, M.hV]; exact vec_size
          have hi2 : (Tryd.prog.info? 59).map (·.size) = some (intsV M.A).length := by rw [intsV_len, M.hA]; exact vec_size
          have hqg : w.heap.size ≠ g := by have := HG2.out; omega
          go_wp2_with fail
          have lqm := HBm.out.lt
          refine wp_region_held_drew (S := fun w' => Blk w' w.heap.size 62 M.arr) (by kernel_rfl) HBm.out (fun hHeld => ?_)
          refine wpAnyH_take (i := 0) (v := ?vv0) rfl (by kernel_rfl) (by kernel_rfl) (by kernel_rfl) (fun _ _ _ h => h) (Or.inl ⟨by rfl, ?yy0⟩) (by assumption) ?rr0
          case yy0 => ((intro W hSw; (try dsimp only at hSw); have s3 : W.cell? ⟨w.heap.size, 145, none⟩ = some (.slice M.not.a M.not.n M.not.c) := hSw.cell (msg_end M 0); have s4 := hSw.lt; clear hSw; go_simp); all_goals (with_reducible rfl))
          try simp only [List.getElem_toArray, List.getElem_cons_succ, List.getElem_cons_zero, Act.put, List.setIfInBounds_toArray, List.set_cons_zero, List.set_cons_succ]
          refine wpAnyH_take (i := 1) (v := _) rfl (by kernel_rfl) (by kernel_rfl) (by kernel_rfl) (fun _ _ _ h => h) (yieldsIf_load_mid (by rfl) _ _ rfl _ _ rfl _ _ (fun _ h => h.rangeAt 15 _ (msg_V M)) hu rfl (by assumption)) (by assumption) ?_
          try simp only [List.getElem_toArray, List.getElem_cons_succ, List.getElem_cons_zero, Act.put, List.setIfInBounds_toArray, List.set_cons_zero, List.set_cons_succ]
          refine wpAnyH_take (i := 2) (v := ?vv2) rfl (by kernel_rfl) (by kernel_rfl) (by kernel_rfl) (fun _ _ _ h => h) (Or.inl ⟨by rfl, ?yy2⟩) (by assumption) ?rr2
          case yy2 => ((intro W hSw; (try dsimp only at hSw); have s3 : W.cell? ⟨w.heap.size, 145, none⟩ = some (.slice M.not.a M.not.n M.not.c) := hSw.cell (msg_end M 0); have s4 := hSw.lt; clear hSw; go_simp); all_goals (with_reducible rfl))
          try simp only [List.getElem_toArray, List.getElem_cons_succ, List.getElem_cons_zero, Act.put, List.setIfInBounds_toArray, List.set_cons_zero, List.set_cons_succ]
          refine wpAnyH_take (i := 3) (v := _) rfl (by kernel_rfl) (by kernel_rfl) (by kernel_rfl) (fun _ _ _ h => h) (yieldsIf_load_mid (by rfl) _ _ rfl _ _ rfl _ _ (fun _ h => h.rangeAt 80 _ (msg_A M)) hu rfl (by assumption)) (by assumption) ?_
          try simp only [List.getElem_toArray, List.getElem_cons_succ, List.getElem_cons_zero, Act.put, List.setIfInBounds_toArray, List.set_cons_zero, List.set_cons_succ]
          refine wpAnyH_take (i := 4) (v := ?vv4) rfl (by kernel_rfl) (by kernel_rfl) (by kernel_rfl) (fun _ _ _ h => h) (Or.inl ⟨by rfl, ?yy4⟩) (by assumption) ?rr4
          case yy4 => ((intro W hSw; (try dsimp only at hSw); have s3 : W.cell? ⟨w.heap.size, 145, none⟩ = some (.slice M.not.a M.not.n M.not.c) := hSw.cell (msg_end M 0); have s4 := hSw.lt; clear hSw; go_simp); all_goals (with_reducible rfl))
          try simp only [List.getElem_toArray, List.getElem_cons_succ, List.getElem_cons_zero, Act.put, List.setIfInBounds_toArray, List.set_cons_zero, List.set_cons_succ]
          refine wpAnyH_take (i := 5) (v := ?vv5) rfl (by kernel_rfl) (by kernel_rfl) (by kernel_rfl) (fun _ _ _ h => h) (Or.inl ⟨by rfl, ?yy5⟩) (by assumption) ?rr5
          case yy5 => ((intro W hSw; (try dsimp only at hSw); have s3 : W.cell? ⟨w.heap.size, 145, none⟩ = some (.slice M.not.a M.not.n M.not.c) := hSw.cell (msg_end M 0); have s4 := hSw.lt; clear hSw; go_simp); all_goals (with_reducible rfl))
          try simp only [List.getElem_toArray, List.getElem_cons_succ, List.getElem_cons_zero, Act.put, List.setIfInBounds_toArray, List.set_cons_zero, List.set_cons_succ]
          refine wpAnyH_take (i := 7) (v := ?vv7) rfl (by kernel_rfl) (by kernel_rfl) (by kernel_rfl) (fun _ _ _ h => h) (Or.inl ⟨by rfl, ?yy7⟩) (by assumption) ?rr7
          case yy7 => ((intro W hSw; (try dsimp only at hSw); have s3 : W.cell? ⟨w.heap.size, 145, none⟩ = some (.slice M.not.a M.not.n M.not.c) := hSw.cell (msg_end M 0); have s4 := hSw.lt; clear hSw; go_simp); all_goals (with_reducible rfl))
          try simp only [List.getElem_toArray, List.getElem_cons_succ, List.getElem_cons_zero, Act.put, List.setIfInBounds_toArray, List.set_cons_zero, List.set_cons_succ]
          obtain ⟨v', w4, hrun, ho4, hx4⟩ := app_nil (ty := 60) nv_elem nv_coded Tryd.underlying60 (HNr.out.ext HE3.out.drew') (by omega) (by omega)
          obtain ⟨nv2, hnv2⟩ := slV_of ho4
          rw [hnv2] at hrun ho4
          clear hnv2
          refine wpAnyH_ready (rs := [6]) (by kernel_rfl) (by simp) ?_
          refine AllReadyH.cons rfl (fun K hK => ?_) AllReadyH.nil
          simp only [List.getElem_toArray, List.getElem_cons_succ, List.getElem_cons_zero]
          rw [if_pos (by rfl)]
          refine wp_app (.const (.slice none 0 0)) (.tmp 48) _ _ rfl rfl rfl hrun ?_
          refine hK.out _ _ (hHeld.ext hx4) (fun hHeld => ?_)
          clear hK K
          try simp only [List.getElem_toArray, List.getElem_cons_succ, List.getElem_cons_zero, Act.put, List.setIfInBounds_toArray, List.set_cons_zero, List.set_cons_succ]
          have HXw : Hid (Ext w3 w4) := ((Ext.refl w3).drew').trans hx4
          have HB4 := hid (HB3.out.ext HXw.out)
          have HE4 := hid (HE3.out.trans HXw.out)
          have HEn4 := hid (ownsRow_ext HEn3.out HXw.out)
          have HN4 := hid (ownsRow_mono ho4 (Nat.zero_le _))
          clear hx4 ho4 hrun HXw HB3 HE3 HEn3
          have b13 : w4.cell? ⟨g, 13, none⟩ = some (.bool false) := HB4.out.cell (by rw [← Hp.out, msg_hd _ 13 (by omega)]; rfl)
          have z13 := HB4.out.frozen 13
          have lg4 := HB4.out.lt
          refine wpAnyH_ready (rs := [8]) (by kernel_rfl) (by simp) ?_
          refine AllReadyH.cons rfl (fun K hK => ?_) AllReadyH.nil
          simp only [List.getElem_toArray, List.getElem_cons_succ, List.getElem_cons_zero]
          rw [if_pos (by rfl)]
          go_simp
          refine hK.out _ _ (hHeld.far hqg _) (fun hHeld => ?_)
          clear hK K
          try simp only [List.getElem_toArray, List.getElem_cons_succ, List.getElem_cons_zero, Act.put, List.setIfInBounds_toArray, List.set_cons_zero, List.set_cons_succ]
          have HK5 := hid ((Keep.refl (fun q => q = g) w4).setCell (p := ⟨g, 13, none⟩) (.inl rfl) (.bool true))
          have HB5 := hid (HB4.out.set 13 (.bool true))
          clear b13 z13
          generalize w4.setCell ⟨g, 13, none⟩ (.bool true) = w5 at HK5 HB5 hHeld ⊢
          obtain ⟨p1, hp1⟩ : ∃ p1, p.setIfInBounds 13 (.bool true) = p1 := ⟨_, rfl⟩
          have HP1s : Hid (p1.size = 147) := by unfold Hid; rw [← hp1, Array.size_setIfInBounds]; exact HP.out
          rw [hp1] at HB5
          refine wpAnyH_take (i := 9) (v := ?vv9) rfl (by kernel_rfl) (by kernel_rfl) (by kernel_rfl) (fun _ _ _ h => h) (Or.inl ⟨by rfl, ?yy9⟩) (by assumption) ?rr9
          case yy9 => ((intro W hSw; (try dsimp only at hSw); have s3 : W.cell? ⟨w.heap.size, 145, none⟩ = some (.slice M.not.a M.not.n M.not.c) := hSw.cell (msg_end M 0); have s4 := hSw.lt; clear hSw; go_simp); all_goals (with_reducible rfl))
          try simp only [List.getElem_toArray, List.getElem_cons_succ, List.getElem_cons_zero, Act.put, List.setIfInBounds_toArray, List.set_cons_zero, List.set_cons_succ]
          have t1 := HB5.out.there 15 65 (by rw [HP1s.out]; omega)
          refine wpAnyH_ready (rs := [10]) (by kernel_rfl) (by simp) ?_
          refine AllReadyH.cons rfl (fun K hK => ?_) AllReadyH.nil
          simp only [List.getElem_toArray, List.getElem_cons_succ, List.getElem_cons_zero]
          rw [if_pos (by rfl)]
          refine wp_store_mid _ _ _ rfl _ _ (List.toArray _) rfl rfl (by rw [List.size_toArray, intsV_len, M.hV]; exact t1) (by rw [List.size_toArray]; exact hi1) (all_oneCell_toArray (intsV_one M.V)) ?_
          try simp only [List.toList_toArray]
          refine hK.out _ _ (hHeld.keep (Keep.setCells (S := fun q => q = g) (.inl rfl) (intsV M.V) (Keep.refl _ w5) 15) hqg) (fun hHeld => ?_)
          clear hK K t1
          try simp only [List.getElem_toArray, List.getElem_cons_succ, List.getElem_cons_zero, Act.put, List.setIfInBounds_toArray, List.set_cons_zero, List.set_cons_succ]
          have HK6 := hid (Keep.setCells (S := fun q => q = g) (.inl rfl) (intsV M.V) HK5.out 15)
          have HB6 := hid (HB5.out.setCells (intsV M.V) 15 (by rw [intsV_len, M.hV, HP1s.out]; omega))
          generalize w5.setCells g 15 (intsV M.V) = w6 at HK6 HB6 hHeld ⊢
          obtain ⟨p2, hp2⟩ : ∃ p2, (p1.toList.take 15 ++ (intsV M.V ++ p1.toList.drop (15 + (intsV M.V).length))).toArray = p2 := ⟨_, rfl⟩
          have HP2s : Hid (p2.size = 147) := by
            unfold Hid
            have := HP1s.out
            rw [← hp2, List.size_toArray, List.length_append, List.length_append, List.length_take, List.length_drop, Array.length_toList, intsV_len, M.hV]; omega
          rw [hp2] at HB6
          refine wpAnyH_take (i := 11) (v := ?vv11) rfl (by kernel_rfl) (by kernel_rfl) (by kernel_rfl) (fun _ _ _ h => h) (Or.inl ⟨by rfl, ?yy11⟩) (by assumption) ?rr11
          case yy11 => ((intro W hSw; (try dsimp only at hSw); have s3 : W.cell? ⟨w.heap.size, 145, none⟩ = some (.slice M.not.a M.not.n M.not.c) := hSw.cell (msg_end M 0); have s4 := hSw.lt; clear hSw; go_simp); all_goals (with_reducible rfl))
          try simp only [List.getElem_toArray, List.getElem_cons_succ, List.getElem_cons_zero, Act.put, List.setIfInBounds_toArray, List.set_cons_zero, List.set_cons_succ]
          have t2 := HB6.out.there 80 65 (by rw [HP2s.out]; omega)
          refine wpAnyH_ready (rs := [12]) (by kernel_rfl) (by simp) ?_
          refine AllReadyH.cons rfl (fun K hK => ?_) AllReadyH.nil
          simp only [List.getElem_toArray, List.getElem_cons_succ, List.getElem_cons_zero]
          rw [if_pos (by rfl)]
          refine wp_store_mid _ _ _ rfl _ _ (List.toArray _) rfl rfl (by rw [List.size_toArray, intsV_len, M.hA]; exact t2) (by rw [List.size_toArray]; exact hi2) (all_oneCell_toArray (intsV_one M.A)) ?_
          try simp only [List.toList_toArray]
          refine hK.out _ _ (hHeld.keep (Keep.setCells (S := fun q => q = g) (.inl rfl) (intsV M.A) (Keep.refl _ w6) 80) hqg) (fun hHeld => ?_)
          clear hK K t2
          try simp only [List.getElem_toArray, List.getElem_cons_succ, List.getElem_cons_zero, Act.put, List.setIfInBounds_toArray, List.set_cons_zero, List.set_cons_succ]
          have HK7 := hid (Keep.setCells (S := fun q => q = g) (.inl rfl) (intsV M.A) HK6.out 80)
          have HB7 := hid (HB6.out.setCells (intsV M.A) 80 (by rw [intsV_len, M.hA, HP2s.out]; omega))
          generalize w6.setCells g 80 (intsV M.A) = w7 at HK7 HB7 hHeld ⊢
          obtain ⟨p3, hp3⟩ : ∃ p3, (p2.toList.take 80 ++ (intsV M.A ++ p2.toList.drop (80 + (intsV M.A).length))).toArray = p3 := ⟨_, rfl⟩
          have HP3s : Hid (p3.size = 147) := by
            unfold Hid
            have := HP2s.out
            rw [← hp3, List.size_toArray, List.length_append, List.length_append, List.length_take, List.length_drop, Array.length_toList, intsV_len, M.hA]; omega
          rw [hp3] at HB7
          refine wpAnyH_take (i := 13) (v := ?vv13) rfl (by kernel_rfl) (by kernel_rfl) (by kernel_rfl) (fun _ _ _ h => h) (Or.inl ⟨by rfl, ?yy13⟩) (by assumption) ?rr13
          case yy13 => ((intro W hSw; (try dsimp only at hSw); have s3 : W.cell? ⟨w.heap.size, 145, none⟩ = some (.slice M.not.a M.not.n M.not.c) := hSw.cell (msg_end M 0); have s4 := hSw.lt; clear hSw; go_simp); all_goals (with_reducible rfl))
          try simp only [List.getElem_toArray, List.getElem_cons_succ, List.getElem_cons_zero, Act.put, List.setIfInBounds_toArray, List.set_cons_zero, List.set_cons_succ]
          obtain ⟨z9, h145⟩ : ∃ z9, p3[145]? = some z9 := ⟨p3[145]'(by rw [HP3s.out]; omega), Array.getElem?_eq_getElem _⟩
          have b145 := HB7.out.cell h145
          have z145 := HB7.out.frozen 145
          have lg7 := HB7.out.lt
          obtain ⟨na, nn, nc⟩ := nv2
          simp only [SlV.val]
          refine wpAnyH_ready (rs := [14]) (by kernel_rfl) (by simp) ?_
          refine AllReadyH.cons rfl (fun K hK => ?_) AllReadyH.nil
          simp only [List.getElem_toArray, List.getElem_cons_succ, List.getElem_cons_zero]
          rw [if_pos (by rfl)]
          go_simp
          refine hK.out _ _ (hHeld.far (p := ⟨g, 145, none⟩) hqg _) (fun hHeld => ?_)
          clear hK K
          try simp only [List.getElem_toArray, List.getElem_cons_succ, List.getElem_cons_zero, Act.put, List.setIfInBounds_toArray, List.set_cons_zero, List.set_cons_succ]
          refine wpAnyH_done (by kernel_rfl) ?_ _
          have HK8 := hid (HK7.out.setCell (p := ⟨g, 145, none⟩) (.inl rfl) (.slice na nn nc))
          have HB8 := hid (HB7.out.set 145 (.slice na nn nc))
          generalize w7.setCell ⟨g, 145, none⟩ (.slice na nn nc) = w8 at HK8 HB8 ⊢
          obtain ⟨p4, hp4⟩ : ∃ p4, p3.setIfInBounds 145 (.slice na nn nc) = p4 := ⟨_, rfl⟩
          rw [hp4] at HB8
          have HQ : Hid (p4 = (outM M vs.length ⟨na, nn, nc⟩ k e).arr) := by
            unfold Hid
            rw [← hp4]
            exact last_arr M vs.length ⟨na, nn, nc⟩ k e hlast p1 p2 p3 (by rw [← hp1, Hp.out]) hp2.symm hp3.symm
          have HP4 : Hid (p4.size = 147) := by unfold Hid; rw [HQ.out]; exact msg_arr _
          have HE8 : Hid (Ext wr w8) := ((Keep.of_ext HE4.out).trans HK8.out).toExt (Ext.refl _) (fun q hq => by rw [hq]; exact HG2.out)
          have HEn8 := hid (ownsRow_keep HEn4.out HK8.out (fun q hq hS => row_apart HEn4.out HB4.out (by decide) (by rw [← hS]; exact hq)))
          have HN8 := hid (ownsRow_keep HN4.out HK8.out (fun q hq hS => row_apart HN4.out HB4.out (by decide) (by rw [← hS]; exact hq)))
          have HNv5 : Hid (∀ W : World, w8.ownsRow w1.heap.size 62 147 u10 (outL M vs.length ⟨na, nn, nc⟩ es).length ((outL M vs.length ⟨na, nn, nc⟩ es).map MsgC.list).flatten → Keep (fun q => u10.ownBlock = some q) w8 W → k + 1 = vs.length → 0 < vs.length → W.ownsRow 0 34 2 (SlV.val ⟨na, nn, nc⟩) nots.length (nots.map Ver.cells).flatten) := fun W hrow hk _ _ => ownsRow_keep HN8.out hk (fun q hq => rows_apart HN8.out hrow (by decide) q hq)
          rw [outL_nv M vs.length nv ⟨na, nn, nc⟩ es (by omega)] at hR
          clear hNv HN8 HN4 HEn4 HE4 HB4 HB5 HB6 HB7 HK5 HK6 HK7 HK8 hHeld HP HP1 Hp hp1 hp2 hp3 hp4 HP1s HP2s HP3s h145 b145 z145
          have hNv : Hid True := trivial
          have hbs := fun W => build_msg W p4 HP4.out
          have lg8 := HB8.out.lt
          go_wp2_with fail
          have hrow := ownsRow_ext hR.out HE8.out
          have hB5 := Nat.le_trans hE.out.size HE8.out.size
          obtain ⟨v', w5, hrun, ho5, hk5, hb5⟩ := app_one msg_elem msg_coded hrow hB5 (outM M vs.length ⟨na, nn, nc⟩ k e) (by rw [outL_len]; omega) (by omega)
          have hpq : (outM M vs.length ⟨na, nn, nc⟩ k e).list.toArray = p4 := HQ.out.symm
          rw [hpq] at hrun
          have ho6 : w5.ownsRow w1.heap.size 62 147 v' (outL M vs.length ⟨na, nn, nc⟩ (es ++ [e])).length ((outL M vs.length ⟨na, nn, nc⟩ (es ++ [e])).map MsgC.list).flatten := by
            rw [outL_snoc, hes]; exact ho5
          have HR6 := hid ho6
          have HE5 : Hid (Ext w1 w5) := ((Keep.of_ext (hE.out.trans HE8.out)).trans hk5).toExt (Ext.refl _) (fun q hq => (row_block hrow q hq).1)
          have hes5 : EsAt w5 (es ++ [e]) (segs.take (k + 1)) := by
            rw [HT.out]
            exact ((hEs.out.ext HE8.out).snoc (ownsRow_mono HEn8.out (Nat.zero_le _))).keep hrow (by decide) hk5
          have HEs5 := hid hes5
          have HNv6 := hid (HNv5.out w5 hrow hk5)
          clear ho5 ho6 hes5 hB5 hb5 hk5 hrow hE hR hEs hNv HNv5 HEn8 HEr
          simp only [Tryd.isAgg62, Tryd.sizeOf62, Result.andThen, ↓reduceIte, run_loadCells_blk HB8.out 147 HP4.out]
          rw [Oper.upon_value]
          go_wp2_with (at_builtin; refine wpList_app rfl (.tmp 54) (.tmp 56) _ _ rfl rfl rfl hrun ?_)
          go_roundw
          case rel => exact ⟨k + 1, es ++ [e], ⟨na, nn, nc⟩, by omega, by simp [hes], by go_num, HE5, HR6, HEs5, HNv6⟩
          case measure => simp [intOf]; omega
        · have dl : ((k : Int) == (vs.length : Int) - 1) = false := by simp only [beq_eq_false_iff_ne, ne_eq]; omega
          have lg := HB3.out.lt
          go_wp2_with fail
          have hbs := fun W => build_msg W p HP.out
          have HQ := hid (Hp.out.symm.trans (congrArg MsgC.arr (outM_pre M vs.length nv k e hlast)).symm)
          have HNv5 : Hid (∀ W : World, w3.ownsRow w1.heap.size 62 147 u10 (outL M vs.length nv es).length ((outL M vs.length nv es).map MsgC.list).flatten → Keep (fun q => u10.ownBlock = some q) w3 W → k + 1 = vs.length → 0 < vs.length → W.ownsRow 0 34 2 nv.val nots.length (nots.map Ver.cells).flatten) := fun W _ _ h => absurd h hlast
          have hrow := ownsRow_ext hR.out HE3.out
          have hB5 := Nat.le_trans hE.out.size HE3.out.size
          obtain ⟨v', w5, hrun, ho5, hk5, hb5⟩ := app_one msg_elem msg_coded hrow hB5 (outM M vs.length nv k e) (by rw [outL_len]; omega) (by omega)
          have hpq : (outM M vs.length nv k e).list.toArray = p := HQ.out.symm
          rw [hpq] at hrun
          have ho6 : w5.ownsRow w1.heap.size 62 147 v' (outL M vs.length nv (es ++ [e])).length ((outL M vs.length nv (es ++ [e])).map MsgC.list).flatten := by
            rw [outL_snoc, hes]; exact ho5
          have HR6 := hid ho6
          have HE5 : Hid (Ext w1 w5) := ((Keep.of_ext (hE.out.trans HE3.out)).trans hk5).toExt (Ext.refl _) (fun q hq => (row_block hrow q hq).1)
          have hes5 : EsAt w5 (es ++ [e]) (segs.take (k + 1)) := by
            rw [HT.out]
            exact ((hEs.out.ext HE3.out).snoc (ownsRow_mono HEn3.out (Nat.zero_le _))).keep hrow (by decide) hk5
          have HEs5 := hid hes5
          have HNv6 := hid (HNv5.out w5 hrow hk5)
          clear ho5 ho6 hes5 hB5 hb5 hk5 hrow hE hR hEs hNv HNv5 HEn3 HEr
          simp only [Tryd.isAgg62, Tryd.sizeOf62, Result.andThen, ↓reduceIte, run_loadCells_blk HB3.out 147 HP.out]
          rw [Oper.upon_value]
          go_wp2_with (at_builtin; refine wpList_app rfl (.tmp 54) (.tmp 56) _ _ rfl rfl rfl hrun ?_)
          go_roundw
          case rel => exact ⟨k + 1, es ++ [e], nv, by omega, by simp [hes], by go_num, HE5, HR6, HEs5, HNv6⟩
          case measure => simp [intOf]; omega
      · obtain rfl : k = vs.length := by omega
        have hsl9 := hid (sl_of_row (msg_coded.sizes _) (by rw [List.length_map]; exact hR.out))
        have HLen := hid hlen
        have HEr := hid (HE1.out.trans hE.out)
        have hEs9 : EsAt wr es segs := by
          have := hEs.out
          rwa [List.take_of_length_le (by omega)] at this
        have HEs9 := hid hEs9
        have HNv9 := hid (hNv.out rfl (by have := HPos.out; omega))
        clear hEs9 hsl hlen hE hR hEs hNv HU
        have e1 : decide ((vs.length : Int) < vs.length) = false := decide_eq_false (by omega)
        have e1' : decide (vs.length < vs.length) = false := decide_eq_false (by omega)
        go_wp2_with fail
        go_ret2
        have := HCt.out
        subst this
        exact .inr ⟨HY.out, _, rfl, ⟨es, nv, HEs9.out.1, fun i s t h1 h2 => sl_of_row (ent_coded.sizes t) (by rw [List.length_map]; exact HEs9.out.2 i s t h1 h2), sl_of_row (nv_coded.sizes nots) (by rw [List.length_map]; exact HNv9.out), by rw [← HLen.out]; exact hsl9.out⟩, HEr.out⟩
end Go.Proofs.YtanflgipdiogaaaDoor
namespace Go.Proofs.YtanflgipdiogaaaDoor
set_option linter.unusedSimpArgs false
set_option linter.unusedVariables false
open Go.RowKit

/-- awake's entry. -/
def entA : EntI := ⟨3, ⟨⟨0, 0⟩, ⟨⟨0, 0⟩, 0⟩, ⟨#[]⟩, ⟨#[]⟩, false⟩, ⟨⟨0, 0⟩, ⟨⟨0, 0⟩, 0⟩, ⟨#[]⟩, 0, false⟩, ⟨⟨1, 1⟩, ⟨2, 2⟩⟩⟩
theorem entA_right : rightE entA = true := by decide
theorem entA_ok : EntOk entA := by
  constructor <;> first | decide | (unfold UpdI.in64 in64 entA; dsimp only; omega) | (unfold MetaI.in64 in64 entA; dsimp only; omega) | (unfold in64 entA; dsimp only; omega)
theorem entA_size : sizeE entA = 5 := by
  unfold sizeE entF
  rw [if_pos entA_right]
  show (encL (fN 3 :: bothF ⟨⟨1, 1⟩, ⟨2, 2⟩⟩)).length = 5
  unfold bothF
  rw [encL_cons, encL_cons, encL_cons, encL_cons, encL_cons]
  show (lebL 3 ++ (lebL 1 ++ (lebL 1 ++ (lebL 2 ++ (lebL 2 ++ []))))).length = 5
  rw [lebL_small (by omega), lebL_small (by omega), lebL_small (by omega)]; rfl
theorem entA_cut : cutL 12 [entA, entA, entA] = [[entA, entA], [entA]] := by
  unfold cutL foldC
  simp only [List.foldl_cons, List.foldl_nil]
  unfold stepC
  rw [entA_size]
  simp
theorem entA_hasB : [entA, entA, entA].all hasB = true := by
  simp [hasB, entA_size]
theorem nil_cut : cutL 12 [] = [[]] := rfl
theorem entA_sum : sumE [entA, entA] = 10 := by simp [sumE, entA_size]
def msgA : MsgC := ⟨0, 1, 1, 1, 0, 0, 0, false, nilS, nilS, nilS, nilS, 0, false, nilS, vec0, vec0, nilS, 0, by simp [vec0], by simp [vec0]⟩
theorem msgA_built : Tryd.prog.built 62 [(1, .agg #[.int .i64 1, .int .i64 1, .int .i64 1])] = some msgA.arr := by kernel_rfl
theorem entA_built : Tryd.prog.built 44 [(0, .int .i64 3), (3, .agg #[.int .i64 1, .int .i64 1, .int .i64 2, .int .i64 2])] = some entA.arr := by kernel_rfl
theorem build_three (w : World) (X : Array Value) (hX : X.size = 21) : (Instr.buildSlice 22 3 #[(0, .agg X), (1, .agg X), (2, .agg X)]).run Tryd.prog w = .ok (.slice (some ⟨w.heap.size, 0, none⟩) 3 3) (w.alloc (.cells (X.toList ++ (X.toList ++ X.toList)).toArray 44)) := by
  obtain ⟨i0, h0, h1, h2, h3⟩ := info_parts entinfo
  have := run_build_rows (t := 22) (e := 44) (sz := 21) (bytes := 192) ⟨Tryd.underlying22, i0, _, h0, h1, h2, h3, rfl⟩ w [X, X, X] (fun x hx => by simp only [List.mem_cons, List.not_mem_nil, or_false] at hx; rcases hx with rfl | rfl | rfl <;> exact hX) (by omega) (by simp) (by simp) #[(0, .agg X), (1, .agg X), (2, .agg X)] rfl
  simpa using this
theorem sl_three (w : World) : Sl (w.alloc (.cells (entA.arr.toList ++ (entA.arr.toList ++ entA.arr.toList)).toArray 44)) 21 (.slice (some ⟨w.heap.size, 0, none⟩) 3 3) ([entA, entA, entA].map EntI.cells) :=
  Sl.of_flat (Blk.new w _ _) ⟨[], by simp [arr_list]⟩ (ent_coded.sizes _) rfl (Nat.le_refl _) (by unfold maxLen; omega)
attribute [-simp] Tryd.isAgg44 Tryd.sizeOf44
attribute [-go_sem] Go.Instr.buildSlice Go.Instr.build
set_option maxRecDepth 100000 in
set_option maxHeartbeats 8000000 in
theorem awake19_c (w : World) (m : Int) (hm : w.cell? ⟨0, 0, none⟩ = some (.int .i64 m)) : Calls Tryd.prog 9 #[] w (Ret (.bool true) w) := by
  have HCut := fun W (hW : Ext w W) v (h : Sl W 21 v ([entA, entA, entA].map EntI.cells)) => hid (cut_c W v [entA, entA, entA] 12 m (hW.cell hm) h (by simp) (fun e he => by simp only [List.mem_cons, List.not_mem_nil, or_false] at he; rcases he with rfl | rfl | rfl <;> exact entA_ok) (by omega))
  have HMk := fun W (hW : Ext w W) => hid (make_c W msgA (.slice none 0 0) [] [] 12 m (hW.cell hm) (Sl.nil W 21) (Sl.nil W 2) (by simp) (by simp) (fun e he => by cases he) (by omega))
  have HWe := fun W (hW : Ext w W) v (h : Sl W 21 v ([entA, entA].map EntI.cells)) => hid (weigh_c W v [entA, entA] m (hW.cell hm) h (by simp) (fun e he => by simp only [List.mem_cons, List.not_mem_nil, or_false] at he; rcases he with rfl | rfl <;> exact entA_ok))
  rw [entA_sum] at HWe
  rw [entA_cut, entA_hasB] at HCut
  rw [nil_cut] at HMk
  have hb1 := fun W => run_build (P := Tryd.prog) W 34 #[(0, .int .i64 1), (1, .int .i64 1)] #[.int .i64 1, .int .i64 1] (by kernel_rfl)
  have hb2 := fun W => run_build (P := Tryd.prog) W 34 #[(0, .int .i64 2), (1, .int .i64 2)] #[.int .i64 2, .int .i64 2] (by kernel_rfl)
  have hb3 := fun W => run_build (P := Tryd.prog) W 42 #[(0, .agg #[.int .i64 1, .int .i64 1]), (1, .agg #[.int .i64 2, .int .i64 2])] #[.int .i64 1, .int .i64 1, .int .i64 2, .int .i64 2] (by kernel_rfl)
  have hb4 := fun W => run_build (P := Tryd.prog) W 44 #[(0, .int .i64 3), (3, .agg #[.int .i64 1, .int .i64 1, .int .i64 2, .int .i64 2])] entA.arr entA_built
  have hb5 := fun W => run_build (P := Tryd.prog) W 51 #[(0, .int .i64 1), (1, .int .i64 1), (2, .int .i64 1)] #[.int .i64 1, .int .i64 1, .int .i64 1] (by kernel_rfl)
  have hb6 := fun W => run_build (P := Tryd.prog) W 62 #[(1, .agg #[.int .i64 1, .int .i64 1, .int .i64 1])] msgA.arr msgA_built
  have hb7 := fun W => build_three W entA.arr (arr_size entA)
  have HS3 := fun W => hid (sl_three W)
  have hzx := hid (arr_size entA)
  have hox := hid (arr_one entA)
  have HZ : Hid (entZ.size = 21) := rfl
  obtain ⟨Z, hZ⟩ : ∃ Z : Array Value, entZ = Z := ⟨_, rfl⟩
  rw [hZ] at HZ
  unfold entZ at hZ
  have HB1 := hid (Blk.new w 44 Z)
  have HE1 := hid (Ext.alloc w (.cells Z 44))
  generalize entA.arr = X at hb4 hb7 HS3 hzx hox
  clear hm
  go_enter Tryd.func9, Tryd.ntmps9
  go_wp2_with fail
  simp only [Tryd.sizeOf44, Result.andThen, ↓reduceIte, run_storeCells_blk HB1.out (by rw [hzx.out]; exact ent_size) (by rw [hzx.out, HZ.out]) hox.out, hzx.out]
  rw [Oper.upon_skip]
  rw [World.setRow_alloc_new]
  have HB2 := hid (Blk.new w 44 X)
  have HE2 := hid (Ext.alloc w (.cells X 44))
  clear HB1 HE1 hb1 hb2 hb3 hb4
  generalize w.alloc (.cells X 44) = w2 at HB2 HE2 ⊢
  go_wp2_with fail
  simp only [Tryd.isAgg44, Tryd.sizeOf44, Result.andThen, ↓reduceIte, run_loadCells_blk HB2.out 21 hzx.out]
  rw [Oper.upon_value]
  go_wp2_with fail
  simp only [Tryd.isAgg44, Tryd.sizeOf44, Result.andThen, ↓reduceIte, run_loadCells_blk HB2.out 21 hzx.out]
  rw [Oper.upon_value]
  go_wp2_with fail
  simp only [Tryd.isAgg44, Tryd.sizeOf44, Result.andThen, ↓reduceIte, run_loadCells_blk HB2.out 21 hzx.out]
  rw [Oper.upon_value]
  go_wp2_with fail
  have HS := hid (HS3 w2).out
  have HE3 := hid (HE2.out.alloc' (.cells (X.toList ++ (X.toList ++ X.toList)).toArray 44))
  clear hb7 HS3
  generalize w2.alloc (.cells (X.toList ++ (X.toList ++ X.toList)).toArray 44) = w3 at HS HE3 ⊢
  refine ((HCut _ HE3.out _ HS.out).out).mono ?_
  rintro en w4 (⟨hno, _⟩ | ⟨_, u, vs, rfl, hu, hv, x4⟩)
  · cases hno
  have HE4 := hid (HE3.out.trans x4)
  have HVs := hid hv
  have HSu := hid hu
  have HMk' := HMk _ HE4.out
  clear x4 hv hu HMk HCut HE3 HS HE2 HB2
  go_wp2_with fail
  refine (HMk'.out).mono ?_
  rintro en w5 (⟨hno, _⟩ | ⟨_, u2, rfl, hm5, x5⟩)
  · cases hno
  have HE5 := hid (HE4.out.trans x5)
  have hvs := hid (⟨HVs.out.1, fun i s t h1 h2 => (HVs.out.2 i s t h1 h2).ext x5⟩ : SegsAt w5 vs [[entA, entA], [entA]])
  have HSu5 := hid (HSu.out.ext x5)
  clear x5 HE4 HVs HSu HMk' hb5 hb6
  obtain ⟨es, nv, a1, _, _, a4⟩ := hm5
  match es, a1 with
  | [e1], _ =>
  obtain ⟨v1, v2, rfl⟩ : ∃ v1 v2, vs = [v1, v2] := by
    have := hvs.out.1
    match vs, this with
    | [v1, v2], _ => exact ⟨v1, v2, rfl⟩
  have hs1 := hid (hvs.out.2 0 v1 [entA, entA] rfl rfl)
  obtain ⟨A1, c1, rfl, g1, g2, g3⟩ := sl_get HSu5.out
  obtain ⟨b1, o1, rfl, lb1, k1⟩ := g3 (by simp)
  obtain ⟨A2, c2, rfl, f1, f2, f3⟩ := sl_get a4
  obtain ⟨b2, o2, rfl, lb2, k2⟩ := f3 (by simp [outL])
  obtain ⟨A3, c3, hv3, d1, _, _⟩ := sl_get hs1.out
  obtain ⟨a9, n9, c9⟩ := v1
  obtain rfl : n9 = 2 := by injection hv3
  have q1 : w5.cell? ⟨b1, o1, none⟩ = some (.slice a9 2 c9) := by
    have := k1 0 (by simp) 0 (.slice a9 2 c9) rfl
    simpa using this
  have q2 : w5.cell? ⟨b2, o2, none⟩ = some (.int .i64 2) := by
    have := k2 0 (by simp [outL]) 0 (.int .i64 2) rfl
    simpa using this
  have q3 : w5.cell? ⟨b2, o2 + 13, none⟩ = some (.bool true) := by
    have := k2 0 (by simp [outL]) 13 (.bool true) rfl
    simpa using this
  have HW5 := HWe _ HE5.out _ hs1.out
  have e2 : (outL msgA [([] : List EntI)].length nv [e1]).length = 1 := rfl
  rw [e2] at f1 ⊢
  clear hv3 k1 k2 g3 f3 a4 hs1 hvs HSu5 HWe d1 e2
  go_wp2_with fail
  refine (HW5.out).mono ?_
  rintro en w6 ⟨rfl, x6⟩
  have HE6 := hid (HE5.out.trans x6)
  have p2 := x6.cell q2
  have p3 := x6.cell q3
  clear q1 q2 q3 HE5 HW5 x6
  go_wp2_with fail
  go_ret
  exact ⟨rfl, HE6.out⟩
end Go.Proofs.YtanflgipdiogaaaDoor
