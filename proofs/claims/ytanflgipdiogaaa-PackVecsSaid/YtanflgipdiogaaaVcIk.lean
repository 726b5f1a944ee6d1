/-
  pack.PutVec.
-/
import Derived.Test.YtanflgipdiogaaaVcFk
import Derived.Test.YtanflgipdiogaaaVcH
namespace Go.Proofs.Ytanflgipdiogaaa
set_option linter.unusedSimpArgs false
set_option linter.unusedVariables false
open Go.RowKit

/-- The bytes of a list of parts. -/
def listB {α : Type} (enc : α → ByteArray) (l : List α) : ByteArray := ⟨(encL (fN l.length :: l.map (fun x => fT (enc x)))).toArray⟩
theorem encL_cons (f : FldI) (l : List FldI) : encL (f :: l) = f.enc ++ encL l := by simp [encL]
theorem encT_len {α : Type} (enc : α → ByteArray) (B : Nat) (hB : B < 9223372036854775808) : ∀ l : List α, (∀ x ∈ l, (enc x).size ≤ B) → (encL (l.map fun x => fT (enc x))).length ≤ (9 + B) * l.length
  | [], _ => by simp [encL]
  | x :: l, h => by
    have ih := encT_len enc B hB l (fun y hy => h y (by simp [hy]))
    have hx := h x (by simp)
    have h1 : (fT (enc x)).enc.length = (lebL (enc x).size).length + (enc x).size := by
      show (lebL (enc x).size ++ (enc x).data.toList).length = _
      rw [List.length_append, Array.length_toList]; rfl
    have h2 := lebL_9 (n := (enc x).size) (by omega)
    rw [List.map_cons, encL_cons, List.length_append, h1, List.length_cons, Nat.mul_add]
    omega
theorem encT_ge {α : Type} (enc : α → ByteArray) : ∀ l : List α, l.length ≤ (encL (l.map fun x => fT (enc x))).length
  | [] => Nat.zero_le _
  | x :: l => by
    have ih := encT_ge enc l
    have h1 : (fT (enc x)).enc.length = (lebL (enc x).size).length + (enc x).size := by
      show (lebL (enc x).size ++ (enc x).data.toList).length = _
      rw [List.length_append, Array.length_toList]; rfl
    have h2 := lebL_pos (enc x).size
    rw [List.map_cons, encL_cons, List.length_append, h1, List.length_cons]
    omega
theorem row_keep {w w' : World} {B sz : Nat} {e : TypeId} {v : Value} {n : Nat} {cs : List Value} {S : Nat → Prop} (h : w.ownsRow B e sz v n cs) (hk : Keep S w w') (hS : ∀ g, S g → g < B) : w'.ownsRow B e sz v n cs := by
  obtain ⟨h1, h2⟩ := h
  refine ⟨h1, ?_⟩
  rcases h2 with h2 | ⟨g, cap, cells, a1, a2, a3, a4, a5, a6, a7⟩
  · exact .inl h2
  · exact .inr ⟨g, cap, cells, a1, a2, (hk.block g (by
      rcases Nat.lt_or_ge g w.heap.size with hlt | hge
      · exact hlt
      · rw [Array.getElem?_eq_none hge] at a3; cases a3) (fun hs => by have := hS g hs; omega)).trans a3, a4, a5, a6, a7⟩
theorem listB_len {α : Type} (enc : α → ByteArray) (l : List α) (B N : Nat) (hB : B < 9223372036854775808) (hl : l.length ≤ N) (hN : N < 9223372036854775808) (h : ∀ x ∈ l, (enc x).size ≤ B) : (encL (fN l.length :: l.map (fun x => fT (enc x)))).length ≤ 9 + (9 + B) * N := by
  have h1 := encT_len enc B hB l h
  have h2 : (fN l.length).enc.length ≤ 9 := by
    show (lebL (l.length : Int).toNat).length ≤ 9
    exact lebL_9 (by omega)
  have h3 : (9 + B) * l.length ≤ (9 + B) * N := Nat.mul_le_mul_left _ hl
  rw [encL_cons, List.length_append]
  omega
theorem listB_size {α : Type} (enc : α → ByteArray) (l : List α) : (listB enc l).size = (encL (fN l.length :: l.map (fun x => fT (enc x)))).length := rfl
theorem listB_pos {α : Type} (enc : α → ByteArray) (l : List α) : (listB enc l).size ≠ 0 := by
  rw [listB_size]
  have := encL_pos (l := fN l.length :: l.map (fun x => fT (enc x))) (by simp)
  omega
/-- Numbers of 64 bits. -/
def in64L (v : List Int) : Prop := ∀ z ∈ v, in64 z
theorem getD_mem {u : List Int} {k : Nat} {P : Int → Prop} (h0 : P 0) (h : ∀ z ∈ u, P z) : P (u.getD k 0) := by
  rw [List.getD_eq_getElem?_getD]
  cases hk : u[k]? with
  | none => exact h0
  | some z => exact h z (List.mem_of_getElem? hk)
theorem endsK_ok {u : List Int} (h : ∀ z ∈ u, z ≤ 9223372036854775807) : ∀ k, k ≤ 100 → ∀ x ∈ endsK u k, okVer x
  | 0, _, x, hx => by cases hx
  | k + 1, hk, x, hx => by
    unfold endsK at hx
    have hz : u.getD k 0 ≤ 9223372036854775807 := getD_mem (P := fun z => z ≤ 9223372036854775807) (by decide) h
    split at hx
    · rcases List.mem_append.1 hx with hx | hx
      · exact endsK_ok h k (by omega) x hx
      · rw [List.mem_singleton.1 hx]
        rename_i hp
        refine ⟨Int.natCast_nonneg _, ?_, ?_, hz⟩
        · show (k : Int) ≤ _; omega
        · show 0 ≤ u.getD k 0; omega
    · exact endsK_ok h k (by omega) x hx
theorem cleanL_le {v : List Int} (h : in64L v) : ∀ z ∈ cleanL v, z ≤ 9223372036854775807 := by
  intro z hz
  unfold cleanL at hz
  obtain ⟨y, hy, rfl⟩ := List.mem_map.1 hz
  have : y ≤ 9223372036854775807 := by
    rcases List.mem_or_eq_of_mem_set hy with hy | rfl
    · exact (h y hy).2
    · decide
  omega
theorem endsL_ok {v : List Int} (h : in64L v) : ∀ x ∈ endsL v, okVer x := endsK_ok (cleanL_le h) 65 (by omega)
theorem endsL_len (v : List Int) : (endsL v).length ≤ 65 := endsK_len _ 65
attribute [-simp] Try.isAgg23 Try.sizeOf23
set_option maxRecDepth 100000 in
set_option maxHeartbeats 4000000 in
theorem putV_c (w : World) (v : List Int) (hv : v.length = 65) (h64 : in64L v) : Calls Try.prog 5 #[.agg (vecV v)] w (Ret (.tuple #[.string (putB (decide (v = cleanL v)) (listB verB (endsL v))), .int .i64 (okZ (decide (v = cleanL v)))]) w) := by
  have HEn := fun W => hid (ends13_c W v hv)
  have HCl := fun W => hid (clean13_c W v hv)
  have HLs := fun W y (h : Sl W 2 y ((endsL v).map Ver.cells)) => hid (listV_c W y (endsL v) verB h (by have := endsL_len v; omega) (fun x hx W _ => one_c W x (endsL_ok h64 x hx)) (fun x hx => ⟨verB_pos (endsL_ok h64 x hx), by have := verB_okle (endsL_ok h64 x hx); omega⟩) (by
    have := listB_len verB (endsL v) 18 65 (by decide) (endsL_len v) (by decide) (fun x hx => verB_okle (endsL_ok h64 x hx))
    omega))
  have HEq := fun W => run_eq_vec v (cleanL v) hv (by rw [cleanL_length]; exact hv) W
  have HF := fun W => hid (fits_c W (listB verB (endsL v)) (decide (v = cleanL v)))
  have e1 : (if decide (v = cleanL v) = true ∧ (listB verB (endsL v)).size ≠ 0 then listB verB (endsL v) else ⟨#[]⟩) = putB (decide (v = cleanL v)) (listB verB (endsL v)) := by
    have := listB_pos verB (endsL v)
    cases decide (v = cleanL v) <;> simp [putB, this]
  have e2 : (if decide (v = cleanL v) = true then (if (listB verB (endsL v)).size ≠ 0 then 0 else 4) else (2 : Int)) = okZ (decide (v = cleanL v)) := by
    have := listB_pos verB (endsL v)
    cases decide (v = cleanL v) <;> simp [okZ, this]
  rw [e1, e2] at HF
  have e3 : (⟨(encL (fN (endsL v).length :: (endsL v).map (fun x => fT (verB x)))).toArray⟩ : ByteArray) = listB verB (endsL v) := rfl
  rw [e3] at HLs
  have HB0 := hid (Blk.new w 23 (vecV v))
  have HE0 := hid (Ext.alloc w (.cells (vecV v) 23))
  have HV := hid hv
  clear hv h64 e1 e2 e3
  generalize listB verB (endsL v) = s at HF HLs ⊢
  generalize endsL v = en at HEn HLs
  go_enter Try.func5, Try.ntmps5
  go_wp2_with fail
  generalize w.alloc (.cells (vecV v) 23) = w0 at HB0 HE0 ⊢
  refine wp_region_any_order (by kernel_rfl) (by kernel_rfl) (by kernel_rfl) ?_
  repeat (first
    | (refine AWq.val rfl rfl rfl rfl (fun K hK => ?_); go_big_quiet_op; refine hK _ ?_; clear hK K)
    | (refine AWq.skip rfl rfl rfl ?_; simp only [Act.put, List.setIfInBounds_toArray, List.set_cons_succ, List.set_cons_zero])
    | (refine AWq.call rfl Try.func20 (by kernel_rfl) (by kernel_rfl) rfl rfl rfl ?_; apply Exists.intro; refine And.intro (fun wc hc => ?_) ?_; (· (simp only [argsOf, anyAt, ↓reduceIte, Nat.reduceEqDiff, Array.getD_eq_getD_getElem?, List.getElem?_toArray, List.getElem?_cons_succ, List.getElem?_cons_zero, Option.getD_some]; with_reducible exact (HCl _).out)); simp only [Act.put, List.setIfInBounds_toArray, List.set_cons_succ, List.set_cons_zero])
    | (refine AWq.call rfl Try.func16 (by kernel_rfl) (by kernel_rfl) rfl rfl rfl ?_; apply Exists.intro; refine And.intro (fun wc hc => ?_) ?_; (· (simp only [argsOf, anyAt, ↓reduceIte, Nat.reduceEqDiff, Array.getD_eq_getD_getElem?, List.getElem?_toArray, List.getElem?_cons_succ, List.getElem?_cons_zero, Option.getD_some]; with_reducible exact (HF _).out)); simp only [Act.put, List.setIfInBounds_toArray, List.set_cons_succ, List.set_cons_zero])
    | (refine AWq.callQ ((RowAt Ver.cells 2 en)) ((fun v _ _ he h => RowAt.ext h he)) rfl Try.func18 (by kernel_rfl) (by kernel_rfl) rfl rfl rfl (fun wc hc => ?_) ?_; (· (simp only [argsOf, anyAt, ↓reduceIte, Nat.reduceEqDiff, Array.getD_eq_getD_getElem?, List.getElem?_toArray, List.getElem?_cons_succ, List.getElem?_cons_zero, Option.getD_some]; exact (HEn wc).out)))
    | (refine AWq.call rfl Try.func17 (by kernel_rfl) (by kernel_rfl) rfl rfl rfl ?_; apply Exists.intro; refine And.intro (fun wc hc => ?_) ?_; (· (simp only [argsOf, anyAt, ↓reduceIte, Nat.reduceEqDiff, Array.getD_eq_getD_getElem?, List.getElem?_toArray, List.getElem?_cons_succ, List.getElem?_cons_zero, Option.getD_some]; intro y hy; exact (HLs _ _ hy.1).out)); simp only [Act.put, List.setIfInBounds_toArray, List.set_cons_succ, List.set_cons_zero])
    | (refine AWq.val rfl rfl rfl rfl (fun K hK => ?_); refine quiet_load rfl rfl (fun wc hwc => by obtain ⟨E, rfl⟩ := hwc; exact HB0.out.ext (Ext.of_wext _ _)) (fun wc hB => vec_load HV.out hB) (hK _ ?_); clear hK K; simp only [Act.put, List.setIfInBounds_toArray, List.set_cons_succ, List.set_cons_zero]))
  refine AWq.done rfl rfl rfl (fun w2 x2 => ?_)
  simp only [closeAny, Act.put, List.setIfInBounds_toArray, List.set_cons_succ, List.set_cons_zero]
  rintro x5 -
  go_wp2_with fail
  go_ret2
  exact ⟨rfl, HE0.out.trans x2⟩
end Go.Proofs.Ytanflgipdiogaaa
