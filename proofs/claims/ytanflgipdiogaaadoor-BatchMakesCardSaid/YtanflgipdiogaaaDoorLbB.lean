/-
  Rows of bytes: what append asks of them; a row of one's own as a text.
-/
import Derived.Test.YtanflgipdiogaaaDoorLbA
import Derived.Test.YtanflgipdiogaaaDoorRow
namespace Go.Proofs.YtanflgipdiogaaaDoor
set_option linter.unusedSimpArgs false
set_option linter.unusedVariables false
open Go.RowKit

theorem byte_info : (Tryd.prog.info? 5).map (fun i => (i.zero, i.size, i.bytes)) = some (some (.int .u8 0), 1, 1) := by kernel_rfl
theorem byte_elem : Elem Tryd.prog 150 5 1 1 := by
  obtain ⟨i0, h0, h1, h2, h3⟩ := info_parts byte_info
  exact ⟨Tryd.underlying150, i0, _, h0, h1, h2, h3, rfl⟩
def byteC (b : UInt8) : List Value := [.int .u8 b.toNat]
theorem byte_coded : Coded byteC 1 := ⟨fun _ => rfl, fun a u hu => by simp [byteC] at hu; rcases hu with rfl; rfl⟩
theorem flatB (l : List UInt8) : (l.map byteC).flatten = l.map fun b => .int .u8 b.toNat := by
  induction l with
  | nil => rfl
  | cons x l ih => rw [List.map_cons, List.flatten_cons, ih]; rfl
/-- A row of bytes of one's own, made since. -/
def OwnB (l : List UInt8) (B : Nat) (v : Value) (w : World) : Prop := (l.length = 0 → v = .slice none 0 0) ∧ w.ownsRow B 5 1 v l.length (l.map byteC).flatten
theorem OwnB.sl {l : List UInt8} {B : Nat} {v : Value} {w : World} (h : OwnB l B v w) : Sl w 1 v (l.map byteC) :=
  sl_of_row (xs := l.map byteC) (byte_coded.sizes _) (by rw [List.length_map]; exact h.2)
theorem OwnB.ext {l : List UInt8} {B : Nat} {v : Value} {w w' : World} (h : OwnB l B v w) (he : Ext w w') : OwnB l B v w' := ⟨h.1, ownsRow_ext h.2 he⟩
theorem OwnB.nil (B : Nat) (w : World) : OwnB [] B (.slice none 0 0) w := ⟨fun _ => rfl, ownsRow_nil _ _ _ _⟩
theorem OwnB.push {l : List UInt8} {B : Nat} {v : Value} {w : World} (h : OwnB l B v w) (hB : B ≤ w.heap.size) (x : UInt8) (hl : l.length ≤ 1000000) : ∃ v' w', (Builtin.append_ #[150, 150] 150 #[v, .slice (some ⟨w.heap.size, 0, none⟩) 1 1]).run Tryd.prog (w.alloc (.cells #[.int .u8 x.toNat] 5)) = .ok v' w' ∧ OwnB (l ++ [x]) B v' w' ∧ Keep (fun q => v.ownBlock = some q) w w' := by
  obtain ⟨v', w', hrun, ho, hk, hbl⟩ := app_one (P := Tryd.prog) byte_elem byte_coded h.2 hB x (by omega) (by omega)
  exact ⟨v', w', hrun, ⟨fun h0 => by simp at h0, ho⟩, hk⟩
theorem OwnB.app {l m : List UInt8} {B : Nat} {v u : Value} {w : World} {tx : TypeId} (h : OwnB l B v w) (hB : B ≤ w.heap.size) (hs : Src Tryd.prog 1 tx u m.length (m.map byteC).flatten w) (hl : l.length ≤ 1000000) (hml : m.length ≤ 1000000) : ∃ v' w', (Builtin.append_ #[150, tx] 150 #[v, u]).run Tryd.prog w = .ok v' w' ∧ OwnB (l ++ m) B v' w' ∧ Keep (fun q => v.ownBlock = some q) w w' ∧ (v'.ownBlock = v.ownBlock ∨ ∀ q, v'.ownBlock = some q → w.heap.size ≤ q) := by
  obtain ⟨v', w', hr, ho, hk, hb9, hn⟩ := app_row (ty := 150) byte_elem h.2 hB hs (by unfold maxLen; omega) (by omega)
  refine ⟨v', w', hr, ⟨fun h0 => ?_, ?_⟩, hk, hb9⟩
  · rw [List.length_append] at h0
    exact hn h0 (h.1 (by omega))
  · rw [List.length_append, List.map_append, List.flatten_append]
    exact ho
/-- A text as what append takes. -/
theorem src_text (w : World) (s : ByteArray) : Src Tryd.prog 1 9 (.string s) s.data.toList.length (s.data.toList.map byteC).flatten w := by
  have h := Src.ofString (P := Tryd.prog) w (tx := 9) Tryd.underlying9 s
  rw [flatB]
  have e : s.data.toList.length = s.size := by rw [Array.length_toList]; rfl
  rw [e]
  exact h
theorem fold_push (ns : List UInt8) : ∀ r : ByteArray, (ns.map fun b => ((b.toNat : Nat) : Int)).foldl (fun r n => r.push (UInt8.ofNat n.toNat)) r = ⟨r.data ++ ns.toArray⟩ := by
  induction ns with
  | nil => intro r; simp
  | cons b ns ih =>
    intro r
    rw [List.map_cons, List.foldl_cons, ih]
    have : UInt8.ofNat ((b.toNat : Int)).toNat = b := by simp
    rw [this]
    apply ByteArray.ext
    simp [ByteArray.push, Array.append_assoc]
/-- string(b) -/
theorem conv_row {l : List UInt8} {B : Nat} {v : Value} {w : World} (h : OwnB l B v w) (hpos : 0 < l.length) : (convert 150 9 v).run Tryd.prog w = .ok (.string ⟨l.toArray⟩) w := by
  obtain ⟨A, c, rfl, _, _, hc⟩ := sl_get (code := byteC) h.sl
  obtain ⟨b, o, rfl, _, hcell⟩ := hc hpos
  rw [run_convert_bytes_string _ _ _ 5 _ _ _ Tryd.underlying150 Tryd.underlying5 Tryd.underlying9]
  rw [run_bytesToString _ _ _ _ (l.map fun b => ((b.toNat : Nat) : Int)) ?_]
  · rw [fold_push]
    have e0 : ByteArray.empty.data = #[] := rfl
    rw [e0, Array.empty_append]
  · have := run_loadCells_list (P := Tryd.prog) w ⟨b, o, none⟩ (l.map fun b => Value.int .u8 b.toNat) (fun j v hv => by
      rw [List.getElem?_map] at hv
      obtain ⟨x, hx, rfl⟩ := Option.map_eq_some_iff.1 hv
      obtain ⟨hj, he⟩ := List.getElem?_eq_some_iff.1 hx
      have := hcell j hj 0 (.int .u8 x.toNat) (by rw [he]; rfl)
      rw [Addr.add_lit]
      simpa using this)
    rw [List.length_map] at this
    rw [this, List.map_map]
    rfl
end Go.Proofs.YtanflgipdiogaaaDoor
