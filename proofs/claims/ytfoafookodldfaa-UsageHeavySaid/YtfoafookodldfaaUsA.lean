/-
  Leaves and uses in memory; lighteragelaw43.few.
-/
import Derived.Test.YtfoafookodldfaaIdxI
import Derived.Test.YtfoafookodldfaaIdxCov
import Derived.Test.YtfoafookodldfaaIdxLk
namespace Go.Proofs.Ytfoafookodldfaa
set_option linter.unusedSimpArgs false
set_option linter.unusedVariables false
open Go.RowKit

structure LeafI where
  name : ByteArray
  path : ByteArray
  by_ : Int
  n : Int
  data : ByteArray
def LeafI.cells (x : LeafI) : List Value := [.string x.name, .string x.path, .int .i64 x.by_, .int .i64 x.n, .string x.data]
def Leaves (l : List LeafI) : List (List Value) := l.map LeafI.cells
structure UseI where
  pre : ByteArray
  files : Int
  bytes : Int
def UseI.cells (x : UseI) : List Value := [.string x.pre, .int .i64 x.files, .int .i64 x.bytes]
def Uses (l : List UseI) : List (List Value) := l.map UseI.cells

theorem sl_of_row {w : World} {base : Nat} {e : TypeId} {sz : Nat} {v : Value} {xs : List (List Value)} (hsz : ∀ x ∈ xs, x.length = sz) (h : w.ownsRow base e sz v xs.length xs.flatten) : Sl w sz v xs := by
  rcases h.2 with ⟨rfl, h0⟩ | ⟨g, cap, cur, rfl, _, hg, h1, h2, h3, h4⟩
  · have : xs = [] := List.eq_nil_of_length_eq_zero h0
    subst this
    exact Sl.nil w sz
  · exact Sl.of_flat (show Blk w g e cur from hg) ⟨cur.toList.drop (xs.length * sz), by rw [← h4, List.take_append_drop]⟩ hsz rfl h1 h2
theorem leaves_sz (l : List LeafI) : ∀ x ∈ Leaves l, x.length = 5 := by
  intro x hx
  obtain ⟨y, _, rfl⟩ := List.mem_map.1 hx
  rfl
theorem uses_sz (l : List UseI) : ∀ x ∈ Uses l, x.length = 3 := by
  intro x hx
  obtain ⟨y, _, rfl⟩ := List.mem_map.1 hx
  rfl
theorem sl_leaf {w : World} {v : Value} {l : List LeafI} (h : Sl w 5 v (Leaves l)) : ∃ A c, v = .slice A l.length c ∧ l.length ≤ c ∧ c ≤ maxLen ∧ (0 < l.length → ∃ b o, A = some ⟨b, o, none⟩ ∧ b < w.heap.size ∧ ∀ k (h : k < l.length), w.cell? ⟨b, o + k * 5, none⟩ = some (.string l[k].name) ∧ w.cell? ⟨b, o + k * 5 + 1, none⟩ = some (.string l[k].path) ∧ w.cell? ⟨b, o + k * 5 + 2, none⟩ = some (.int .i64 l[k].by_) ∧ w.cell? ⟨b, o + k * 5 + 3, none⟩ = some (.int .i64 l[k].n) ∧ w.cell? ⟨b, o + k * 5 + 4, none⟩ = some (.string l[k].data)) := by
  obtain ⟨A, c, h1, h2, h3, h4⟩ := h
  simp only [Leaves, List.length_map] at h1 h2 h4
  refine ⟨A, c, h1, h2, h3, fun hn => ?_⟩
  obtain ⟨b, o, h5, h6, h7⟩ := h4 hn
  refine ⟨b, o, h5, h6, fun k hk => ⟨?_, ?_, ?_, ?_, ?_⟩⟩
  · have := h7 k l[k].cells 0 _ (by simp [hk]) rfl
    simpa using this
  · exact h7 k l[k].cells 1 _ (by simp [hk]) rfl
  · exact h7 k l[k].cells 2 _ (by simp [hk]) rfl
  · exact h7 k l[k].cells 3 _ (by simp [hk]) rfl
  · exact h7 k l[k].cells 4 _ (by simp [hk]) rfl
theorem sl_use {w : World} {v : Value} {l : List UseI} (h : Sl w 3 v (Uses l)) : ∃ A c, v = .slice A l.length c ∧ l.length ≤ c ∧ c ≤ maxLen ∧ (0 < l.length → ∃ b o, A = some ⟨b, o, none⟩ ∧ b < w.heap.size ∧ ∀ k (h : k < l.length), w.cell? ⟨b, o + k * 3, none⟩ = some (.string l[k].pre) ∧ w.cell? ⟨b, o + k * 3 + 1, none⟩ = some (.int .i64 l[k].files) ∧ w.cell? ⟨b, o + k * 3 + 2, none⟩ = some (.int .i64 l[k].bytes)) := by
  obtain ⟨A, c, h1, h2, h3, h4⟩ := h
  simp only [Uses, List.length_map] at h1 h2 h4
  refine ⟨A, c, h1, h2, h3, fun hn => ?_⟩
  obtain ⟨b, o, h5, h6, h7⟩ := h4 hn
  refine ⟨b, o, h5, h6, fun k hk => ⟨?_, ?_, ?_⟩⟩
  · have := h7 k l[k].cells 0 _ (by simp [hk]) rfl
    simpa using this
  · exact h7 k l[k].cells 1 _ (by simp [hk]) rfl
  · exact h7 k l[k].cells 2 _ (by simp [hk]) rfl

def small (x : LeafI) : Bool := decide (x.path.size < 60) && decide (x.data.size < 300)
def fewK (l : List LeafI) : List LeafI := (l.take 20).filter small
theorem few_small {l : List LeafI} {x : LeafI} (h : x ∈ fewK l) : x.path.size < 60 ∧ x.data.size < 300 := by
  have := (List.mem_filter.1 h).2
  simpa [small] using this
theorem few_length (l : List LeafI) : (fewK l).length ≤ 20 := by
  unfold fewK
  have h1 := List.length_filter_le small (l.take 20)
  rw [List.length_take] at h1
  omega
theorem filter_succ {α : Type} (p : α → Bool) (l : List α) (k : Nat) (h : k < l.length) : (l.take (k + 1)).filter p = (l.take k).filter p ++ (if p l[k] then [l[k]] else []) := by
  rw [List.take_succ_eq_append_getElem h, List.filter_append]
  cases hp : p l[k] with
  | true => rw [List.filter_cons_of_pos hp]; simp
  | false => rw [List.filter_cons_of_neg (by simp [hp])]; simp
theorem leaf_info : (Try.prog.info? 66).map (fun i => (i.zero, i.size, i.bytes)) = some (some (.agg #[.string ⟨#[]⟩, .string ⟨#[]⟩, .int .i64 0, .int .i64 0, .string ⟨#[]⟩]), 5, 64) := by kernel_rfl
theorem use_info : (Try.prog.info? 55).map (fun i => (i.zero, i.size, i.bytes)) = some (some (.agg #[.string ⟨#[]⟩, .int .i64 0, .int .i64 0]), 3, 32) := by kernel_rfl

set_option maxRecDepth 100000 in
set_option maxHeartbeats 2000000 in
theorem few_c2 (w : World) (v : Value) (l : List LeafI) (h : Sl w 5 v (Leaves l)) : Calls Try.prog 28 #[v] w (RetQ (fun v' w' => Sl w' 5 v' (Leaves (fewK l)) ∧ ((fewK l).length = 0 → v' = .slice none 0 0)) w) := by
  obtain ⟨A, c, rfl, h1, h2, h3⟩ := sl_leaf h
  obtain ⟨i0, hi0, hz0, hz1, hz2⟩ := info_parts leaf_info
  clear h
  unfold maxLen at h2
  go_enter Try.func28, Try.ntmps28
  go_wp2_with fail
  go_loopw [3, 4] (fun v i wr => ∃ k : Nat, k ≤ l.length ∧ k ≤ 20 ∧ i = .int .i64 k ∧ Ext w wr ∧ ∃ acc : List LeafI, acc.length ≤ k ∧ acc = (l.take k).filter small ∧ (acc.length = 0 → v = .slice none 0 0) ∧ wr.ownsRow w.heap.size 66 5 v acc.length (Leaves acc).flatten) (fun _ i _ => l.length - (intOf i).toNat)
  case atStart => exact ⟨0, by omega, by omega, rfl, Ext.refl _, [], Nat.le_refl _, rfl, (fun _ => rfl), ⟨rfl, .inl ⟨rfl, rfl⟩⟩⟩
  case round =>
    obtain ⟨k, hk, hk20, rfl, hE, acc, hacc, hrest, hz, hown⟩ := hrel
    have HZ := hid hz
    clear hz
    by_cases hgo : k < l.length ∧ k < 20
    · obtain ⟨hlt, hlt20⟩ := hgo
      have d1 : decide (k < l.length) = true := decide_eq_true hlt
      have d2 : decide ((k : Int) < 20) = true := by simp; omega
      obtain ⟨b, o, rfl, lb, hcell⟩ := h3 (by omega)
      obtain ⟨c0, c1, c2, c3, c4⟩ := hcell k hlt
      have e0 := hE.cell c0
      have e1 := hE.cell c1
      have e2 := hE.cell c2
      have e3 := hE.cell c3
      have e4 := hE.cell c4
      have lb1 := Nat.lt_of_lt_of_le lb hE.size
      have HS := hid (filter_succ small l k hlt)
      have HE := hid hE
      have HOwn := hid hown
      have HRest := hid hrest
      clear hcell h3 hE hown hrest c0 c1 c2 c3 c4
      generalize l[k] = x at e0 e1 e2 e3 e4 HS
      by_cases p1 : x.path.size < 60
      · have q1 : decide ((x.path.size : Int) < 60) = true := by simp; omega
        by_cases p2 : x.data.size < 300
        · have q2 : decide ((x.data.size : Int) < 300) = true := by simp; omega
          have HS' : Hid ((l.take (k + 1)).filter small = acc ++ [x]) := by
            have := HS.out
            rw [show small x = true by simp [small, p1, p2], if_pos rfl, ← HRest.out] at this
            exact this
          have hbs : w.heap.size ≤ (wr.alloc (.cells #[.string x.name, .string x.path, .int .i64 x.by_, .int .i64 x.n, .string x.data] 66)).heap.size := by have := HE.out.size; simp; omega
          have O4 : Hid ((wr.alloc (.cells #[.string x.name, .string x.path, .int .i64 x.by_, .int .i64 x.n, .string x.data] 66)).ownsRow w.heap.size 66 5 u3 acc.length (Leaves acc).flatten) := ownsRow_ext HOwn.out (Ext.alloc _ _)
          clear p1 p2
          go_wp2_with (at_builtin; refine wpList_append_lies _ rfl (.tmp 31) (.tmp 36) _ rfl w.heap.size 66 i0 _ 5 64 Try.underlying52 hi0 hz0 hz1 hz2 rfl (by omega) u3 acc.length (Leaves acc).flatten rfl O4.out ⟨wr.heap.size, 0, none⟩ 1 1 [.string x.name, .string x.path, .int .i64 x.by_, .int .i64 x.n, .string x.data] rfl rfl (World.news_of_block (cs := #[.string x.name, .string x.path, .int .i64 x.by_, .int .i64 x.n, .string x.data]) (t := 66) (fr := (0, 0)) (heap_alloc_new wr _)) (by simp [Value.oneCell']) (by omega) (by unfold maxLen; omega) (by omega) hbs _ rfl ?_; intro g2 cc2 w4 hown4 hgrow hat hlt4; have HB : Hid (Below w.heap.size w w4) := (HE.out.alloc' _).grown hgrow hbs (fun q hq => (row_block O4.out q hq).1); have HO4 := hid hown4; clear hgrow hat hlt4 hown4)
          go_roundw
          case rel =>
            refine ⟨k + 1, by omega, by omega, by go_num, HB.out, acc ++ [x], by simp; omega, HS'.out.symm, (fun h => by simp at h), ?_⟩
            have e : (Leaves (acc ++ [x])).flatten = (Leaves acc).flatten ++ [.string x.name, .string x.path, .int .i64 x.by_, .int .i64 x.n, .string x.data] := by simp [Leaves, LeafI.cells]
            rw [e, List.length_append]
            exact HO4.out
          case measure => simp [intOf]; omega
        · have q2 : decide ((x.data.size : Int) < 300) = false := by simp; omega
          have HS' : Hid ((l.take (k + 1)).filter small = acc) := by
            have := HS.out
            rw [show small x = false by simp [small]; omega, if_neg (by simp), ← HRest.out, List.append_nil] at this
            exact this
          clear p1 p2
          go_wp2_with fail
          go_roundw
          case rel => exact ⟨k + 1, by omega, by omega, by go_num, HE.out, acc, by omega, HS'.out.symm, HZ.out, HOwn.out⟩
          case measure => simp [intOf]; omega
      · have q1 : decide ((x.path.size : Int) < 60) = false := by simp; omega
        have HS' : Hid ((l.take (k + 1)).filter small = acc) := by
          have := HS.out
          rw [show small x = false by simp [small, p1], if_neg (by simp), ← HRest.out, List.append_nil] at this
          exact this
        clear p1
        go_wp2_with fail
        go_roundw
        case rel => exact ⟨k + 1, by omega, by omega, by go_num, HE.out, acc, by omega, HS'.out.symm, HZ.out, HOwn.out⟩
        case measure => simp [intOf]; omega
    · have HE := hid hE
      have HOwn := hid hown
      have HF : Hid (acc = fewK l) := by
        unfold Hid fewK
        rw [hrest]
        by_cases h20 : k = 20
        · subst h20; rfl
        · rw [List.take_of_length_le (by omega), List.take_of_length_le (by omega)]
      clear hE hown h3 hrest
      by_cases hlt : k < l.length
      · have d1 : decide (k < l.length) = true := decide_eq_true hlt
        have d2 : decide ((k : Int) < 20) = false := by simp; omega
        clear hlt hgo
        go_wp2_with fail
        go_ret
        refine ⟨_, rfl, ?_, HE.out⟩
        rw [← HF.out]
        refine ⟨?_, HZ.out⟩
        exact sl_of_row (leaves_sz _) (by rw [show (Leaves acc).length = acc.length by simp [Leaves]]; exact HOwn.out)
      · have d1 : decide (k < l.length) = false := decide_eq_false hlt
        clear hlt hgo
        go_wp2_with fail
        go_ret
        refine ⟨_, rfl, ?_, HE.out⟩
        rw [← HF.out]
        refine ⟨?_, HZ.out⟩
        exact sl_of_row (leaves_sz _) (by rw [show (Leaves acc).length = acc.length by simp [Leaves]]; exact HOwn.out)
theorem few_c (w : World) (v : Value) (l : List LeafI) (h : Sl w 5 v (Leaves l)) : Calls Try.prog 28 #[v] w (RetQ (fun v' w' => Sl w' 5 v' (Leaves (fewK l))) w) :=
  (few_c2 w v l h).mono fun _ _ ⟨v', h1, h2, h3⟩ => ⟨v', h1, h2.1, h3⟩
end Go.Proofs.Ytfoafookodldfaa
