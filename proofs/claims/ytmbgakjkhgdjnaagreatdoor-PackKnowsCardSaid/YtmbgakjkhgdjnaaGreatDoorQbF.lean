/-
  pack.one, pack.fits, pack.list of versions.
  pack.list of versions (written by gen_list.py).
  pack.PutVec.
-/
import Derived.Test.YtmbgakjkhgdjnaaGreatDoorQbE
import Derived.Test.YtmbgakjkhgdjnaaGreatDoorQaD
import Derived.Test.YtmbgakjkhgdjnaaGreatDoorQdI
namespace Go.Proofs.YtmbgakjkhgdjnaaGreatDoor
set_option linter.unusedSimpArgs false
set_option linter.unusedVariables false
open Go.RowKit

set_option maxRecDepth 100000 in
set_option maxHeartbeats 1000000 in
theorem fits_c (w : World) (s : ByteArray) (b : Bool) : Calls Tryz.prog 37 #[.string s, .bool b] w (Ret (.tuple #[.string (if b = true ∧ s.size ≠ 0 then s else ⟨#[]⟩), .int .i64 (if b = true then (if s.size ≠ 0 then 0 else 4) else 2)]) w) := by
  cases b with
  | false =>
    rw [if_neg (fun h => by cases h.1), if_neg (fun h => by cases h)]
    go_enter Tryz.func37, Tryz.ntmps37
    go_wp2_with fail
    go_ret2
    exact ⟨rfl, Ext.refl _⟩
  | true =>
    rw [if_pos rfl]
    by_cases h0 : s.size = 0
    · have hs : s = ⟨#[]⟩ := ByteArray.ext (Array.eq_empty_of_size_eq_zero h0)
      subst hs
      rw [if_neg (fun h => h.2 rfl), if_neg (fun h => h rfl)]
      go_enter Tryz.func37, Tryz.ntmps37
      go_wp2_with fail
      go_ret2
      exact ⟨rfl, Ext.refl _⟩
    · rw [if_pos ⟨rfl, h0⟩, if_pos h0]
      have d0 : s.toList.isEmpty = false := by
        cases h : s.toList.isEmpty with
        | false => rfl
        | true => rw [← size_toL, List.isEmpty_iff.1 h] at h0; exact absurd rfl h0
      clear h0
      go_enter Tryz.func37, Tryz.ntmps37
      go_wp2_with fail
      go_ret2
      exact ⟨rfl, Ext.refl _⟩
/-- A version whose numbers can be laid. -/
def okVer (v : Ver) : Prop := 0 ≤ v.by_ ∧ v.by_ ≤ 9223372036854775807 ∧ 0 ≤ v.n ∧ v.n ≤ 9223372036854775807
theorem ver_enc {v : Ver} (h : okVer v) : (⟨(encL [fN v.by_, fN v.n]).toArray⟩ : ByteArray) = verB v := by
  apply ByteArray.ext
  apply Array.ext'
  unfold verB
  simp only [ByteArray.data_append, Array.toList_append, numB_list h.1, numB_list h.2.2.1]
  simp [encL, fN, FldI.enc]
theorem verB_okle {v : Ver} (h : okVer v) : (verB v).size ≤ 18 := verB_18 (by have := h.1; have := h.2.1; unfold in64; omega) (by have := h.2.2.1; have := h.2.2.2; unfold in64; omega)
theorem verB_pos {v : Ver} (h : okVer v) : 0 < (verB v).size := by
  have h1 : (numB v.by_).data.toList.length = (numB v.by_).size := by rw [Array.length_toList]; rfl
  rw [numB_list h.1] at h1
  have := lebL_pos v.by_.toNat
  unfold verB
  rw [ByteArray.size_append]
  omega
set_option maxRecDepth 100000 in
set_option maxHeartbeats 1000000 in
theorem one_c (w : World) (x : Ver) (hx : okVer x) : Calls Tryz.prog 91 #[.agg #[.int .i64 x.by_, .int .i64 x.n]] w (Ret (.string (verB x)) w) := by
  have HV := fun W => hid (pver_c W x)
  have hok : ∀ f ∈ [fN x.by_, fN x.n], f.ok := fun f hf => by
    obtain ⟨h1, h2, h3, h4⟩ := hx
    simp only [List.mem_cons, List.not_mem_nil, or_false] at hf
    rcases hf with rfl | rfl
    · exact ⟨Nat.zero_le _, fun _ => h1, h2⟩
    · exact ⟨Nat.zero_le _, fun _ => h3, h4⟩
  have hlen : (encL [fN x.by_, fN x.n]).length ≤ 65536 := by
    have h1 : (encL [fN x.by_, fN x.n]).length = (⟨(encL [fN x.by_, fN x.n]).toArray⟩ : ByteArray).size := rfl
    have h2 := verB_okle hx
    rw [ver_enc hx] at h1
    omega
  have HP := fun W v (h : Sl W 3 v ([fN x.by_, fN x.n].map FldI.cells)) => hid (play_c W v [fN x.by_, fN x.n] h hok (by simp) hlen)
  rw [ver_enc hx] at HP
  have HE := hid (Ext.alloc w (.cells #[.int .i64 x.by_, .int .i64 x.n] 60))
  unfold Ver.val at HV
  clear hok hlen hx
  generalize verB x = r at HP ⊢
  go_enter Tryz.func91, Tryz.ntmps91
  go_wp2_with fail
  refine ((HV _).out).mono ?_
  rintro en w1 ⟨v, rfl, ⟨ho, q, rfl⟩, x1⟩
  have HS := hid ho.sl
  have HE1 := hid (HE.out.trans x1)
  clear x1 ho
  go_wp2_with fail
  refine ((HP _ _ HS.out).out).mono ?_
  rintro en w2 ⟨rfl, x2⟩
  have HE2 := hid (HE1.out.trans x2)
  clear x2
  go_wp2_with fail
  go_ret
  exact ⟨rfl, HE2.out⟩
end Go.Proofs.YtmbgakjkhgdjnaaGreatDoor
namespace Go.Proofs.YtmbgakjkhgdjnaaGreatDoor
set_option linter.unusedSimpArgs false
set_option linter.unusedVariables false
open Go.RowKit

set_option maxRecDepth 100000 in
set_option maxHeartbeats 4000000 in
theorem listV_c (w : World) (v : Value) (l : List Ver) (enc : Ver → ByteArray) (h : Sl w 2 v (l.map Ver.cells)) (hl : l.length ≤ 100000) (hone : ∀ x ∈ l, ∀ W, Ext w W → Calls Tryz.prog 91 #[.agg #[.int .i64 x.by_, .int .i64 x.n]] W (Ret (.string (enc x)) W)) (hpos : ∀ x ∈ l, 0 < (enc x).size ∧ (enc x).size ≤ 65536) (htot : (encL (fN l.length :: l.map (fun x => fT (enc x)))).length ≤ 65536) : Calls Tryz.prog 89 #[v, .func (.func 91) #[] #[]] w (Ret (.string ⟨(encL (fN l.length :: l.map (fun x => fT (enc x)))).toArray⟩) w) := by
  obtain ⟨A, c, rfl, h1, h2, h3⟩ := sl_get h
  unfold maxLen at h2
  have HN := fun W n => hid (fN_c W n)
  have HT := fun W s => hid (fT_c W s)
  have HOne := hid hone
  have HPos := hid hpos
  have HP := fun W u (h : Sl W 3 u ((fN l.length :: l.map (fun x => fT (enc x))).map FldI.cells)) => hid (play_c W u (fN l.length :: l.map (fun x => fT (enc x))) h (fun f hf => by
    rcases List.mem_cons.1 hf with rfl | hf
    · exact ⟨Nat.zero_le _, fun _ => Int.natCast_nonneg _, by show (l.length : Int) ≤ _; omega⟩
    · obtain ⟨x, hx, rfl⟩ := List.mem_map.1 hf
      exact ⟨(hpos x hx).2, fun h => (by (have h : true = false := h); cases h), by show (0 : Int) ≤ _; omega⟩) (by simp) htot)
  have H3 := hid h3
  clear h h3 hone hpos htot
  go_enter Tryz.func89, Tryz.ntmps89
  go_wp2_with fail
  refine ((HN _ _).out).mono ?_
  rintro en w1 ⟨rfl, x1⟩
  have HE1 := hid x1
  clear x1
  have HF0 : Hid (OwnF [fN l.length] w.heap.size (.slice (some ⟨w1.heap.size, 0, none⟩) 1 1) (w1.alloc (.cells #[.int .i64 l.length, .string ⟨#[]⟩, .bool false] 146))) := own_lit HE1.out.size 146 3 1 #[.int .i64 l.length, .string ⟨#[]⟩, .bool false] (by unfold maxLen; omega) rfl
  have HE2 := hid (HE1.out.alloc' (.cells #[.int .i64 l.length, .string ⟨#[]⟩, .bool false] 146))
  go_wp2_with fail
  generalize w1.alloc (.cells #[.int .i64 l.length, .string ⟨#[]⟩, .bool false] 146) = w2 at HF0 HE2 ⊢
  obtain ⟨v0, hv0⟩ : ∃ v0, v0 = Value.slice (some ⟨w1.heap.size, 0, none⟩) 1 1 := ⟨_, rfl⟩
  go_loopw [5, 15] (fun s5 s15 wr => ∃ (k : Nat) (ov : Value), ov = s5 ∧ k ≤ l.length ∧ s15 = .int .i64 k ∧ Hid (Ext w wr) ∧ Hid (OwnF (fN l.length :: (l.take k).map (fun x => fT (enc x))) w.heap.size s5 wr)) (fun _ s15 _ => l.length - (intOf s15).toNat)
  case atStart => exact ⟨0, _, rfl, by omega, rfl, HE2, HF0⟩
  case round =>
    obtain ⟨k, s5, rfl, hk, rfl, hE, hO⟩ := hrel
    clear HF0 HE2 HE1 hv0 HN
    by_cases hlt : k < l.length
    · have d1 : decide ((k : Int) < l.length) = true := decide_eq_true (by omega)
      have d1' : decide (k < l.length) = true := decide_eq_true hlt
      obtain ⟨b, o, rfl, lb, hcell⟩ := H3.out (by omega)
      have c0 := hE.out.cell (hcell k hlt 0 _ rfl)
      have c1 := hE.out.cell (hcell k hlt 1 _ rfl)
      rw [Nat.add_zero] at c0
      have lbr := Nat.lt_of_lt_of_le lb hE.out.size
      have HM : Hid ((l.take (k + 1)).map (fun x => fT (enc x)) = (l.take k).map (fun x => fT (enc x)) ++ [fT (enc l[k])]) := by
        unfold Hid
        rw [List.take_succ_eq_append_getElem hlt, List.map_append]; rfl
      have HC := HOne.out l[k] (List.getElem_mem hlt)
      have hp := (HPos.out l[k] (List.getElem_mem hlt)).1
      have hlen : ((l.take k).map (fun x => fT (enc x))).length ≤ 100000 := by rw [List.length_map, List.length_take]; omega
      clear H3 hcell HOne HPos HP
      generalize hacc1 : (l.take (k + 1)).map (fun x => fT (enc x)) = acc1 at HM
      have HA1 := hid hacc1
      clear hacc1
      generalize hacc : (l.take k).map (fun x => fT (enc x)) = acc at hO HM hlen
      clear hacc
      generalize l[k] = x at c0 c1 HC HM hp
      have d0 : (enc x).toList.isEmpty = false := by
        cases h : (enc x).toList.isEmpty with
        | false => rfl
        | true => rw [← size_toL, List.isEmpty_iff.1 h] at hp; exact absurd hp (by decide)
      clear hp
      generalize enc x = r at HC HM d0
      go_wp2_with fail
      refine (HC _ (hE.out.alloc' _)).mono ?_
      rintro en w3 ⟨rfl, x3⟩
      have hO3 := hid (hO.out.ext ((Ext.alloc _ _).trans x3))
      have hE3 := hid (hE.out.trans ((Ext.alloc _ _).trans x3))
      clear x3 c0 c1 lbr lb hE hO HC
      go_wp2_with fail
      refine ((HT _ _).out).mono ?_
      rintro en w4 ⟨rfl, x4⟩
      have hO4 := hid (hO3.out.ext x4)
      have hE4 := hid (hE3.out.trans x4)
      clear x4 hO3 hE3
      obtain ⟨v', w6, hrun6, ho6, hk6, _⟩ := app_one (P := Tryz.prog) fld_elem fld_coded hO4.out hE4.out.size (fT r) (by simp; omega) (by omega)
      simp only [FldI.cells, fT] at hrun6
      have HE6 := hid (hk6.toExt hE4.out (fun q hq => (row_block hO4.out q hq).1))
      have HO6 : Hid (OwnF (fN l.length :: acc1) w.heap.size v' w6) := by
        rw [HM.out]; exact ho6
      clear ho6 hk6
      go_wp2_with (at_builtin; refine wpList_app rfl (.tmp 24) (.tmp 27) _ _ rfl rfl rfl hrun6 ?_)
      go_roundw
      case rel => exact ⟨k + 1, _, rfl, by omega, by go_num, HE6, by rw [HA1.out]; exact HO6⟩
      case measure => simp [intOf]; omega
    · obtain rfl : k = l.length := by omega
      rw [List.take_length] at hO
      have HS := hid hO.out.sl
      clear hlt hk H3 HOne HPos hO HT
      go_wp2_with fail
      refine ((HP _ _ HS.out).out).mono ?_
      rintro en w7 ⟨rfl, x7⟩
      have HE7 := hid (hE.out.trans x7)
      clear x7
      go_wp2_with fail
      go_ret
      exact ⟨rfl, HE7.out⟩
end Go.Proofs.YtmbgakjkhgdjnaaGreatDoor
namespace Go.Proofs.YtmbgakjkhgdjnaaGreatDoor
set_option linter.unusedSimpArgs false
set_option linter.unusedVariables false
open Go.RowKit

/-- The bytes of a list of parts. -/
def listB {α : Type} (enc : α → ByteArray) (l : List α) : ByteArray := ⟨(encL (fN l.length :: l.map (fun x => fT (enc x)))).toArray⟩
theorem encL_cons (f : FldI) (l : List FldI) : encL (f :: l) = f.enc ++ encL l := by simp [encL]
theorem encT_len {α : Type} (enc : α → ByteArray) (B : Nat) (hB : B < 9223372036854775808) : ∀ l : List α, (∀ x ∈ l, (enc x).size ≤ B) → (encL (l.map fun x => fT (enc x))).length ≤ (9 + B) * l.length
  | [], _ => by simp [encL]
  | x :: l, h => by
    have ih := encT_len enc B hB l (fun y hy => h y (by simp [hy]))
    have hx := h x (by simp)
    have h1 : (fT (enc x)).enc.length = (lebL (enc x).size).length + (enc x).size := by
      show (lebL (enc x).size ++ (enc x).data.toList).length = _
      rw [List.length_append, Array.length_toList]; rfl
    have h2 := lebL_9 (n := (enc x).size) (by omega)
    rw [List.map_cons, encL_cons, List.length_append, h1, List.length_cons, Nat.mul_add]
    omega
theorem encT_ge {α : Type} (enc : α → ByteArray) : ∀ l : List α, l.length ≤ (encL (l.map fun x => fT (enc x))).length
  | [] => Nat.zero_le _
  | x :: l => by
    have ih := encT_ge enc l
    have h1 : (fT (enc x)).enc.length = (lebL (enc x).size).length + (enc x).size := by
      show (lebL (enc x).size ++ (enc x).data.toList).length = _
      rw [List.length_append, Array.length_toList]; rfl
    have h2 := lebL_pos (enc x).size
    rw [List.map_cons, encL_cons, List.length_append, h1, List.length_cons]
    omega
theorem row_keep {w w' : World} {B sz : Nat} {e : TypeId} {v : Value} {n : Nat} {cs : List Value} {S : Nat → Prop} (h : w.ownsRow B e sz v n cs) (hk : Keep S w w') (hS : ∀ g, S g → g < B) : w'.ownsRow B e sz v n cs := by
  obtain ⟨h1, h2⟩ := h
  refine ⟨h1, ?_⟩
  rcases h2 with h2 | ⟨g, cap, cells, a1, a2, a3, a4, a5, a6, a7⟩
  · exact .inl h2
  · exact .inr ⟨g, cap, cells, a1, a2, (hk.block g (by
      rcases Nat.lt_or_ge g w.heap.size with hlt | hge
      · exact hlt
      · rw [Array.getElem?_eq_none hge] at a3; cases a3) (fun hs => by have := hS g hs; omega)).trans a3, a4, a5, a6, a7⟩
theorem listB_len {α : Type} (enc : α → ByteArray) (l : List α) (B N : Nat) (hB : B < 9223372036854775808) (hl : l.length ≤ N) (hN : N < 9223372036854775808) (h : ∀ x ∈ l, (enc x).size ≤ B) : (encL (fN l.length :: l.map (fun x => fT (enc x)))).length ≤ 9 + (9 + B) * N := by
  have h1 := encT_len enc B hB l h
  have h2 : (fN l.length).enc.length ≤ 9 := by
    show (lebL (l.length : Int).toNat).length ≤ 9
    exact lebL_9 (by omega)
  have h3 : (9 + B) * l.length ≤ (9 + B) * N := Nat.mul_le_mul_left _ hl
  rw [encL_cons, List.length_append]
  omega
theorem listB_size {α : Type} (enc : α → ByteArray) (l : List α) : (listB enc l).size = (encL (fN l.length :: l.map (fun x => fT (enc x)))).length := rfl
theorem listB_pos {α : Type} (enc : α → ByteArray) (l : List α) : (listB enc l).size ≠ 0 := by
  rw [listB_size]
  have := encL_pos (l := fN l.length :: l.map (fun x => fT (enc x))) (by simp)
  omega
/-- Numbers of 64 bits. -/
def in64L (v : List Int) : Prop := ∀ z ∈ v, in64 z
theorem getD_mem {u : List Int} {k : Nat} {P : Int → Prop} (h0 : P 0) (h : ∀ z ∈ u, P z) : P (u.getD k 0) := by
  rw [List.getD_eq_getElem?_getD]
  cases hk : u[k]? with
  | none => exact h0
  | some z => exact h z (List.mem_of_getElem? hk)
theorem endsK_ok {u : List Int} (h : ∀ z ∈ u, z ≤ 9223372036854775807) : ∀ k, k ≤ 100 → ∀ x ∈ endsK u k, okVer x
  | 0, _, x, hx => by cases hx
  | k + 1, hk, x, hx => by
    unfold endsK at hx
    have hz : u.getD k 0 ≤ 9223372036854775807 := getD_mem (P := fun z => z ≤ 9223372036854775807) (by decide) h
    split at hx
    · rcases List.mem_append.1 hx with hx | hx
      · exact endsK_ok h k (by omega) x hx
      · rw [List.mem_singleton.1 hx]
        rename_i hp
        refine ⟨Int.natCast_nonneg _, ?_, ?_, hz⟩
        · show (k : Int) ≤ _; omega
        · show 0 ≤ u.getD k 0; omega
    · exact endsK_ok h k (by omega) x hx
theorem cleanL_le {v : List Int} (h : in64L v) : ∀ z ∈ cleanL v, z ≤ 9223372036854775807 := by
  intro z hz
  unfold cleanL at hz
  obtain ⟨y, hy, rfl⟩ := List.mem_map.1 hz
  have : y ≤ 9223372036854775807 := by
    rcases List.mem_or_eq_of_mem_set hy with hy | rfl
    · exact (h y hy).2
    · decide
  omega
theorem endsL_ok {v : List Int} (h : in64L v) : ∀ x ∈ endsL v, okVer x := endsK_ok (cleanL_le h) 65 (by omega)
theorem endsL_len (v : List Int) : (endsL v).length ≤ 65 := endsK_len _ 65
attribute [-simp] Tryz.isAgg44 Tryz.sizeOf44
set_option maxRecDepth 100000 in
set_option maxHeartbeats 4000000 in
theorem putV_c (w : World) (v : List Int) (hv : v.length = 65) (h64 : in64L v) : Calls Tryz.prog 34 #[.agg (vecV v)] w (Ret (.tuple #[.string (putB (decide (v = cleanL v)) (listB verB (endsL v))), .int .i64 (okZ (decide (v = cleanL v)))]) w) := by
  have HEn := fun W => hid (ends13_c W v hv)
  have HCl := fun W => hid (clean13_c W v hv)
  have HLs := fun W y (h : Sl W 2 y ((endsL v).map Ver.cells)) => hid (listV_c W y (endsL v) verB h (by have := endsL_len v; omega) (fun x hx W _ => one_c W x (endsL_ok h64 x hx)) (fun x hx => ⟨verB_pos (endsL_ok h64 x hx), by have := verB_okle (endsL_ok h64 x hx); omega⟩) (by
    have := listB_len verB (endsL v) 18 65 (by decide) (endsL_len v) (by decide) (fun x hx => verB_okle (endsL_ok h64 x hx))
    omega))
  have HEq := fun W => run_eq_vec v (cleanL v) hv (by rw [cleanL_length]; exact hv) W
  have HF := fun W => hid (fits_c W (listB verB (endsL v)) (decide (v = cleanL v)))
  have e1 : (if decide (v = cleanL v) = true ∧ (listB verB (endsL v)).size ≠ 0 then listB verB (endsL v) else ⟨#[]⟩) = putB (decide (v = cleanL v)) (listB verB (endsL v)) := by
    have := listB_pos verB (endsL v)
    cases decide (v = cleanL v) <;> simp [putB, this]
  have e2 : (if decide (v = cleanL v) = true then (if (listB verB (endsL v)).size ≠ 0 then 0 else 4) else (2 : Int)) = okZ (decide (v = cleanL v)) := by
    have := listB_pos verB (endsL v)
    cases decide (v = cleanL v) <;> simp [okZ, this]
  rw [e1, e2] at HF
  have e3 : (⟨(encL (fN (endsL v).length :: (endsL v).map (fun x => fT (verB x)))).toArray⟩ : ByteArray) = listB verB (endsL v) := rfl
  rw [e3] at HLs
  have HB0 := hid (Blk.new w 44 (vecV v))
  have HE0 := hid (Ext.alloc w (.cells (vecV v) 44))
  have HV := hid hv
  clear hv h64 e1 e2 e3
  generalize listB verB (endsL v) = s at HF HLs ⊢
  generalize endsL v = en at HEn HLs
  go_enter Tryz.func34, Tryz.ntmps34
  go_wp2_with fail
  generalize w.alloc (.cells (vecV v) 44) = w0 at HB0 HE0 ⊢
  refine wp_region_any_order (by kernel_rfl) (by kernel_rfl) (by kernel_rfl) ?_
  repeat (first
    | (refine AWq.val rfl rfl rfl rfl (fun K hK => ?_); go_big_quiet_op; refine hK _ ?_; clear hK K)
    | (refine AWq.skip rfl rfl rfl ?_; simp only [Act.put, List.setIfInBounds_toArray, List.set_cons_succ, List.set_cons_zero])
    | (refine AWq.call rfl Tryz.func92 (by kernel_rfl) (by kernel_rfl) rfl rfl rfl ?_; apply Exists.intro; refine And.intro (fun wc hc => ?_) ?_; (· (simp only [argsOf, anyAt, ↓reduceIte, Nat.reduceEqDiff, Array.getD_eq_getD_getElem?, List.getElem?_toArray, List.getElem?_cons_succ, List.getElem?_cons_zero, Option.getD_some]; with_reducible exact (HCl _).out)); simp only [Act.put, List.setIfInBounds_toArray, List.set_cons_succ, List.set_cons_zero])
    | (refine AWq.call rfl Tryz.func37 (by kernel_rfl) (by kernel_rfl) rfl rfl rfl ?_; apply Exists.intro; refine And.intro (fun wc hc => ?_) ?_; (· (simp only [argsOf, anyAt, ↓reduceIte, Nat.reduceEqDiff, Array.getD_eq_getD_getElem?, List.getElem?_toArray, List.getElem?_cons_succ, List.getElem?_cons_zero, Option.getD_some]; with_reducible exact (HF _).out)); simp only [Act.put, List.setIfInBounds_toArray, List.set_cons_succ, List.set_cons_zero])
    | (refine AWq.callQ ((RowAt Ver.cells 2 en)) ((fun v _ _ he h => RowAt.ext h he)) rfl Tryz.func90 (by kernel_rfl) (by kernel_rfl) rfl rfl rfl (fun wc hc => ?_) ?_; (· (simp only [argsOf, anyAt, ↓reduceIte, Nat.reduceEqDiff, Array.getD_eq_getD_getElem?, List.getElem?_toArray, List.getElem?_cons_succ, List.getElem?_cons_zero, Option.getD_some]; exact (HEn wc).out)))
    | (refine AWq.call rfl Tryz.func89 (by kernel_rfl) (by kernel_rfl) rfl rfl rfl ?_; apply Exists.intro; refine And.intro (fun wc hc => ?_) ?_; (· (simp only [argsOf, anyAt, ↓reduceIte, Nat.reduceEqDiff, Array.getD_eq_getD_getElem?, List.getElem?_toArray, List.getElem?_cons_succ, List.getElem?_cons_zero, Option.getD_some]; intro y hy; exact (HLs _ _ hy.1).out)); simp only [Act.put, List.setIfInBounds_toArray, List.set_cons_succ, List.set_cons_zero])
    | (refine AWq.val rfl rfl rfl rfl (fun K hK => ?_); refine quiet_load rfl rfl (fun wc hwc => by obtain ⟨E, rfl⟩ := hwc; exact HB0.out.ext (Ext.of_wext _ _)) (fun wc hB => vec_load HV.out hB) (hK _ ?_); clear hK K; simp only [Act.put, List.setIfInBounds_toArray, List.set_cons_succ, List.set_cons_zero]))
  refine AWq.done rfl rfl rfl (fun w2 x2 => ?_)
  simp only [closeAny, Act.put, List.setIfInBounds_toArray, List.set_cons_succ, List.set_cons_zero]
  rintro x5 -
  go_wp2_with fail
  go_ret2
  exact ⟨rfl, HE0.out.trans x2⟩
end Go.Proofs.YtmbgakjkhgdjnaaGreatDoor
