/-
  Numbers in groups of seven bits: plain laws.
  Rows of bytes: what append asks of them; a row of one's own as a text.
-/
import Derived.Test.YtmbgakjkhgdjnaaGreatDoorProg
import Derived.IntWalk
import Derived.Test.YtmbgakjkhgdjnaaGreatDoorQdL
namespace Go.Proofs.YtmbgakjkhgdjnaaGreatDoor
set_option linter.unusedSimpArgs false
set_option linter.unusedVariables false

/-- A number's bytes. -/
def lebL (n : Nat) : List UInt8 := if h : 127 < n then UInt8.ofNat (n % 128 + 128) :: lebL (n / 128) else [UInt8.ofNat n]
termination_by n
decreasing_by omega
theorem lebL_small {n : Nat} (h : n ≤ 127) : lebL n = [UInt8.ofNat n] := by rw [lebL, dif_neg (by omega)]
theorem lebL_big {n : Nat} (h : 127 < n) : lebL n = UInt8.ofNat (n % 128 + 128) :: lebL (n / 128) := by rw [lebL, dif_pos h]
theorem lebL_len : ∀ (d n : Nat), n < 128 ^ (d + 1) → (lebL n).length ≤ d + 1
  | 0, n, h => by rw [lebL_small (by omega)]; exact Nat.le_refl _
  | d + 1, n, h => by
    by_cases hn : 127 < n
    · rw [lebL_big hn, List.length_cons]
      have := lebL_len d (n / 128) (by
        rw [Nat.div_lt_iff_lt_mul (by omega)]
        rw [Nat.pow_succ] at h
        exact h)
      omega
    · rw [lebL_small (by omega)]
      simp
theorem lebL_pos (n : Nat) : 0 < (lebL n).length := by
  by_cases hn : 127 < n
  · rw [lebL_big hn]; simp
  · rw [lebL_small (by omega)]; simp
theorem lebL_9 {n : Nat} (h : n < 9223372036854775808) : (lebL n).length ≤ 9 := lebL_len 8 n (by omega)
/-- One more group. -/
theorem or_group {a m i : Nat} (ha : a < 128 ^ i) : a ||| (m * 128 ^ i) = a + m * 128 ^ i := by
  have e : (128 : Nat) ^ i = 2 ^ (7 * i) := by rw [Nat.pow_mul]
  rw [e] at ha ⊢
  rw [Nat.or_comm, Nat.mul_comm m, Nat.add_comm]
  exact (Nat.two_pow_add_eq_or_of_lt ha m).symm
/-- What is read so far, and what is still to be read. -/
structure Reads (n : Nat) (i acc m : Nat) : Prop where
  sum : n = acc + m * 128 ^ i
  low : acc < 128 ^ i
  one : 0 < i → 0 < m
theorem Reads.start (n : Nat) : Reads n 0 0 n := ⟨by simp, by simp, fun h => by omega⟩
theorem Reads.step {n i acc m : Nat} (h : Reads n i acc m) (hm : 127 < m) : Reads n (i + 1) (acc + m % 128 * 128 ^ i) (m / 128) := by
  refine ⟨?_, ?_, fun _ => Nat.div_pos (by omega) (by omega)⟩
  · have e := Nat.div_add_mod m 128
    have hs := h.sum
    rw [Nat.pow_succ, Nat.add_assoc, show m / 128 * (128 ^ i * 128) = (128 * (m / 128)) * 128 ^ i by rw [Nat.mul_comm (128 ^ i), ← Nat.mul_assoc, Nat.mul_comm (m / 128)], ← Nat.add_mul, Nat.add_comm (m % 128), e]
    exact hs
  · have h1 := h.low
    have h2 : m % 128 < 128 := Nat.mod_lt _ (by omega)
    have h3 : m % 128 * 128 ^ i ≤ 127 * 128 ^ i := Nat.mul_le_mul_right _ (by omega)
    rw [Nat.pow_succ]
    omega
theorem Reads.stop {n i acc m : Nat} (h : Reads n i acc m) : acc + m * 128 ^ i = n := h.sum.symm
/-- There is room for it. -/
theorem Reads.lt {n i acc m : Nat} (h : Reads n i acc m) (hn : n < 9223372036854775808) (hi : 0 < i) : i < 9 := by
  refine Classical.byContradiction fun h9 => ?_
  have h1 := h.one hi
  have h2 : 128 ^ 9 ≤ 128 ^ i := Nat.pow_le_pow_right (by omega) (by omega)
  have h3 : 128 ^ i ≤ m * 128 ^ i := Nat.le_mul_of_pos_left _ h1
  have h4 := h.sum
  have : (128 : Nat) ^ 9 = 9223372036854775808 := by decide
  omega
theorem Reads.le {n i acc m : Nat} (h : Reads n i acc m) : acc + m % 128 * 128 ^ i ≤ n := by
  have h1 : m % 128 * 128 ^ i ≤ m * 128 ^ i := Nat.mul_le_mul_right _ (Nat.mod_le _ _)
  have := h.sum
  omega
theorem bits_or_nat {a b : Nat} (h : a ||| b < 9223372036854775808) : bits .or .i64 (a : Int) (b : Int) = ((a ||| b : Nat) : Int) := by
  have ha : a ≤ a ||| b := Nat.left_le_or
  have hb : b ≤ a ||| b := Nat.right_le_or
  unfold bits
  simp
  have h64 : (2 : Nat) ^ IntKind.i64.bits = 18446744073709551616 := rfl
  rw [h64, Nat.mod_eq_of_lt (by omega), Nat.mod_eq_of_lt (by omega)]
  exact IntWalk.i64_in _ (by omega)
theorem shl_group {m i : Nat} (hm : m < 128) (hi : i < 9) : IntKind.i64.wrap ((m : Int) * 2 ^ (7 * (i : Int)).toNat) = ((m * 128 ^ i : Nat) : Int) := by
  have e : (7 * (i : Int)).toNat = 7 * i := by omega
  have e2 : (2 : Nat) ^ (7 * i) = 128 ^ i := by rw [Nat.pow_mul]
  have h1 : (128 : Nat) ^ i ≤ 128 ^ 8 := Nat.pow_le_pow_right (by omega) (by omega)
  have h2 : m * 128 ^ i ≤ 127 * 128 ^ 8 := Nat.mul_le_mul (by omega) h1
  have h3 : (127 : Nat) * 128 ^ 8 = 9151314442816847872 := by decide
  rw [e, show ((m : Int) * 2 ^ (7 * i)) = ((m * 2 ^ (7 * i) : Nat) : Int) by simp, e2]
  exact IntWalk.i64_in _ (by omega)
end Go.Proofs.YtmbgakjkhgdjnaaGreatDoor
namespace Go.Proofs.YtmbgakjkhgdjnaaGreatDoor
set_option linter.unusedSimpArgs false
set_option linter.unusedVariables false
open Go.RowKit

theorem byte_info : (Tryz.prog.info? 5).map (fun i => (i.zero, i.size, i.bytes)) = some (some (.int .u8 0), 1, 1) := by kernel_rfl
theorem byte_elem : Elem Tryz.prog 57 5 1 1 := by
  obtain ⟨i0, h0, h1, h2, h3⟩ := info_parts byte_info
  exact ⟨Tryz.underlying57, i0, _, h0, h1, h2, h3, rfl⟩
def byteC (b : UInt8) : List Value := [.int .u8 b.toNat]
theorem byte_coded : Coded byteC 1 := ⟨fun _ => rfl, fun a u hu => by simp [byteC] at hu; rcases hu with rfl; rfl⟩
theorem flatB (l : List UInt8) : (l.map byteC).flatten = l.map fun b => .int .u8 b.toNat := by
  induction l with
  | nil => rfl
  | cons x l ih => rw [List.map_cons, List.flatten_cons, ih]; rfl
/-- A row of bytes of one's own, made since. -/
def OwnB (l : List UInt8) (B : Nat) (v : Value) (w : World) : Prop := (l.length = 0 → v = .slice none 0 0) ∧ w.ownsRow B 5 1 v l.length (l.map byteC).flatten
theorem OwnB.sl {l : List UInt8} {B : Nat} {v : Value} {w : World} (h : OwnB l B v w) : Sl w 1 v (l.map byteC) :=
  sl_of_row (xs := l.map byteC) (byte_coded.sizes _) (by rw [List.length_map]; exact h.2)
theorem OwnB.ext {l : List UInt8} {B : Nat} {v : Value} {w w' : World} (h : OwnB l B v w) (he : Ext w w') : OwnB l B v w' := ⟨h.1, ownsRow_ext h.2 he⟩
theorem OwnB.nil (B : Nat) (w : World) : OwnB [] B (.slice none 0 0) w := ⟨fun _ => rfl, ownsRow_nil _ _ _ _⟩
theorem OwnB.push {l : List UInt8} {B : Nat} {v : Value} {w : World} (h : OwnB l B v w) (hB : B ≤ w.heap.size) (x : UInt8) (hl : l.length ≤ 1000000) : ∃ v' w', (Builtin.append_ #[57, 57] 57 #[v, .slice (some ⟨w.heap.size, 0, none⟩) 1 1]).run Tryz.prog (w.alloc (.cells #[.int .u8 x.toNat] 5)) = .ok v' w' ∧ OwnB (l ++ [x]) B v' w' ∧ Keep (fun q => v.ownBlock = some q) w w' := by
  obtain ⟨v', w', hrun, ho, hk, hbl⟩ := app_one (P := Tryz.prog) byte_elem byte_coded h.2 hB x (by omega) (by omega)
  exact ⟨v', w', hrun, ⟨fun h0 => by simp at h0, ho⟩, hk⟩
theorem OwnB.app {l m : List UInt8} {B : Nat} {v u : Value} {w : World} {tx : TypeId} (h : OwnB l B v w) (hB : B ≤ w.heap.size) (hs : Src Tryz.prog 1 tx u m.length (m.map byteC).flatten w) (hl : l.length ≤ 1000000) (hml : m.length ≤ 1000000) : ∃ v' w', (Builtin.append_ #[57, tx] 57 #[v, u]).run Tryz.prog w = .ok v' w' ∧ OwnB (l ++ m) B v' w' ∧ Keep (fun q => v.ownBlock = some q) w w' ∧ (v'.ownBlock = v.ownBlock ∨ ∀ q, v'.ownBlock = some q → w.heap.size ≤ q) := by
  obtain ⟨v', w', hr, ho, hk, hb9, hn⟩ := app_row (ty := 57) byte_elem h.2 hB hs (by unfold maxLen; omega) (by omega)
  refine ⟨v', w', hr, ⟨fun h0 => ?_, ?_⟩, hk, hb9⟩
  · rw [List.length_append] at h0
    exact hn h0 (h.1 (by omega))
  · rw [List.length_append, List.map_append, List.flatten_append]
    exact ho
/-- A text as what append takes. -/
theorem src_text (w : World) (s : ByteArray) : Src Tryz.prog 1 9 (.string s) s.data.toList.length (s.data.toList.map byteC).flatten w := by
  have h := Src.ofString (P := Tryz.prog) w (tx := 9) Tryz.underlying9 s
  rw [flatB]
  have e : s.data.toList.length = s.size := by rw [Array.length_toList]; rfl
  rw [e]
  exact h
theorem fold_push (ns : List UInt8) : ∀ r : ByteArray, (ns.map fun b => ((b.toNat : Nat) : Int)).foldl (fun r n => r.push (UInt8.ofNat n.toNat)) r = ⟨r.data ++ ns.toArray⟩ := by
  induction ns with
  | nil => intro r; simp
  | cons b ns ih =>
    intro r
    rw [List.map_cons, List.foldl_cons, ih]
    have : UInt8.ofNat ((b.toNat : Int)).toNat = b := by simp
    rw [this]
    apply ByteArray.ext
    simp [ByteArray.push, Array.append_assoc]
/-- string(b) -/
theorem conv_row {l : List UInt8} {B : Nat} {v : Value} {w : World} (h : OwnB l B v w) (hpos : 0 < l.length) : (convert 57 9 v).run Tryz.prog w = .ok (.string ⟨l.toArray⟩) w := by
  obtain ⟨A, c, rfl, _, _, hc⟩ := sl_get (code := byteC) h.sl
  obtain ⟨b, o, rfl, _, hcell⟩ := hc hpos
  rw [run_convert_bytes_string _ _ _ 5 _ _ _ Tryz.underlying57 Tryz.underlying5 Tryz.underlying9]
  rw [run_bytesToString _ _ _ _ (l.map fun b => ((b.toNat : Nat) : Int)) ?_]
  · rw [fold_push]
    have e0 : ByteArray.empty.data = #[] := rfl
    rw [e0, Array.empty_append]
  · have := run_loadCells_list (P := Tryz.prog) w ⟨b, o, none⟩ (l.map fun b => Value.int .u8 b.toNat) (fun j v hv => by
      rw [List.getElem?_map] at hv
      obtain ⟨x, hx, rfl⟩ := Option.map_eq_some_iff.1 hv
      obtain ⟨hj, he⟩ := List.getElem?_eq_some_iff.1 hx
      have := hcell j hj 0 (.int .u8 x.toNat) (by rw [he]; rfl)
      rw [Addr.add_lit]
      simpa using this)
    rw [List.length_map] at this
    rw [this, List.map_map]
    rfl
end Go.Proofs.YtmbgakjkhgdjnaaGreatDoor
