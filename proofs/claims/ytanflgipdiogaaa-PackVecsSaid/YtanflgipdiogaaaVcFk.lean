/-
  pack.list of versions (written by gen_list.py).
-/
import Derived.Test.YtanflgipdiogaaaVcEk
namespace Go.Proofs.Ytanflgipdiogaaa
set_option linter.unusedSimpArgs false
set_option linter.unusedVariables false
open Go.RowKit

set_option maxRecDepth 100000 in
set_option maxHeartbeats 4000000 in
theorem listV_c (w : World) (v : Value) (l : List Ver) (enc : Ver → ByteArray) (h : Sl w 2 v (l.map Ver.cells)) (hl : l.length ≤ 100000) (hone : ∀ x ∈ l, ∀ W, Ext w W → Calls Try.prog 19 #[.agg #[.int .i64 x.by_, .int .i64 x.n]] W (Ret (.string (enc x)) W)) (hpos : ∀ x ∈ l, 0 < (enc x).size ∧ (enc x).size ≤ 65536) (htot : (encL (fN l.length :: l.map (fun x => fT (enc x)))).length ≤ 65536) : Calls Try.prog 17 #[v, .func (.func 19) #[] #[]] w (Ret (.string ⟨(encL (fN l.length :: l.map (fun x => fT (enc x)))).toArray⟩) w) := by
  obtain ⟨A, c, rfl, h1, h2, h3⟩ := sl_get h
  unfold maxLen at h2
  have HN := fun W n => hid (fN_c W n)
  have HT := fun W s => hid (fT_c W s)
  have HOne := hid hone
  have HPos := hid hpos
  have HP := fun W u (h : Sl W 3 u ((fN l.length :: l.map (fun x => fT (enc x))).map FldI.cells)) => hid (play_c W u (fN l.length :: l.map (fun x => fT (enc x))) h (fun f hf => by
    rcases List.mem_cons.1 hf with rfl | hf
    · exact ⟨Nat.zero_le _, fun _ => Int.natCast_nonneg _, by show (l.length : Int) ≤ _; omega⟩
    · obtain ⟨x, hx, rfl⟩ := List.mem_map.1 hf
      exact ⟨(hpos x hx).2, fun h => (by (have h : true = false := h); cases h), by show (0 : Int) ≤ _; omega⟩) (by simp) htot)
  have H3 := hid h3
  clear h h3 hone hpos htot
  go_enter Try.func17, Try.ntmps17
  go_wp2_with fail
  refine ((HN _ _).out).mono ?_
  rintro en w1 ⟨rfl, x1⟩
  have HE1 := hid x1
  clear x1
  have HF0 : Hid (OwnF [fN l.length] w.heap.size (.slice (some ⟨w1.heap.size, 0, none⟩) 1 1) (w1.alloc (.cells #[.int .i64 l.length, .string ⟨#[]⟩, .bool false] 60))) := own_lit HE1.out.size 60 3 1 #[.int .i64 l.length, .string ⟨#[]⟩, .bool false] (by unfold maxLen; omega) rfl
  have HE2 := hid (HE1.out.alloc' (.cells #[.int .i64 l.length, .string ⟨#[]⟩, .bool false] 60))
  go_wp2_with fail
  generalize w1.alloc (.cells #[.int .i64 l.length, .string ⟨#[]⟩, .bool false] 60) = w2 at HF0 HE2 ⊢
  obtain ⟨v0, hv0⟩ : ∃ v0, v0 = Value.slice (some ⟨w1.heap.size, 0, none⟩) 1 1 := ⟨_, rfl⟩
  go_loopw [5, 15] (fun s5 s15 wr => ∃ (k : Nat) (ov : Value), ov = s5 ∧ k ≤ l.length ∧ s15 = .int .i64 k ∧ Hid (Ext w wr) ∧ Hid (OwnF (fN l.length :: (l.take k).map (fun x => fT (enc x))) w.heap.size s5 wr)) (fun _ s15 _ => l.length - (intOf s15).toNat)
  case atStart => exact ⟨0, _, rfl, by omega, rfl, HE2, HF0⟩
  case round =>
    obtain ⟨k, s5, rfl, hk, rfl, hE, hO⟩ := hrel
    clear HF0 HE2 HE1 hv0 HN
    by_cases hlt : k < l.length
    · have d1 : decide ((k : Int) < l.length) = true := decide_eq_true (by omega)
      have d1' : decide (k < l.length) = true := decide_eq_true hlt
      obtain ⟨b, o, rfl, lb, hcell⟩ := H3.out (by omega)
      have c0 := hE.out.cell (hcell k hlt 0 _ rfl)
      have c1 := hE.out.cell (hcell k hlt 1 _ rfl)
      rw [Nat.add_zero] at c0
      have lbr := Nat.lt_of_lt_of_le lb hE.out.size
      have HM : Hid ((l.take (k + 1)).map (fun x => fT (enc x)) = (l.take k).map (fun x => fT (enc x)) ++ [fT (enc l[k])]) := by
        unfold Hid
        rw [List.take_succ_eq_append_getElem hlt, List.map_append]; rfl
      have HC := HOne.out l[k] (List.getElem_mem hlt)
      have hp := (HPos.out l[k] (List.getElem_mem hlt)).1
      have hlen : ((l.take k).map (fun x => fT (enc x))).length ≤ 100000 := by rw [List.length_map, List.length_take]; omega
      clear H3 hcell HOne HPos HP
      generalize hacc1 : (l.take (k + 1)).map (fun x => fT (enc x)) = acc1 at HM
      have HA1 := hid hacc1
      clear hacc1
      generalize hacc : (l.take k).map (fun x => fT (enc x)) = acc at hO HM hlen
      clear hacc
      generalize l[k] = x at c0 c1 HC HM hp
      have d0 : (enc x).toList.isEmpty = false := by
        cases h : (enc x).toList.isEmpty with
        | false => rfl
        | true => rw [← size_toL, List.isEmpty_iff.1 h] at hp; exact absurd hp (by decide)
      clear hp
      generalize enc x = r at HC HM d0
      go_wp2_with fail
      refine (HC _ (hE.out.alloc' _)).mono ?_
      rintro en w3 ⟨rfl, x3⟩
      have hO3 := hid (hO.out.ext ((Ext.alloc _ _).trans x3))
      have hE3 := hid (hE.out.trans ((Ext.alloc _ _).trans x3))
      clear x3 c0 c1 lbr lb hE hO HC
      go_wp2_with fail
      refine ((HT _ _).out).mono ?_
      rintro en w4 ⟨rfl, x4⟩
      have hO4 := hid (hO3.out.ext x4)
      have hE4 := hid (hE3.out.trans x4)
      clear x4 hO3 hE3
      obtain ⟨v', w6, hrun6, ho6, hk6, _⟩ := app_one (P := Try.prog) fld_elem fld_coded hO4.out hE4.out.size (fT r) (by simp; omega) (by omega)
      simp only [FldI.cells, fT] at hrun6
      have HE6 := hid (hk6.toExt hE4.out (fun q hq => (row_block hO4.out q hq).1))
      have HO6 : Hid (OwnF (fN l.length :: acc1) w.heap.size v' w6) := by
        rw [HM.out]; exact ho6
      clear ho6 hk6
      go_wp2_with (at_builtin; refine wpList_app rfl (.tmp 24) (.tmp 27) _ _ rfl rfl rfl hrun6 ?_)
      go_roundw
      case rel => exact ⟨k + 1, _, rfl, by omega, by go_num, HE6, by rw [HA1.out]; exact HO6⟩
      case measure => simp [intOf]; omega
    · obtain rfl : k = l.length := by omega
      rw [List.take_length] at hO
      have HS := hid hO.out.sl
      clear hlt hk H3 HOne HPos hO HT
      go_wp2_with fail
      refine ((HP _ _ HS.out).out).mono ?_
      rintro en w7 ⟨rfl, x7⟩
      have HE7 := hid (hE.out.trans x7)
      clear x7
      go_wp2_with fail
      go_ret
      exact ⟨rfl, HE7.out⟩
end Go.Proofs.Ytanflgipdiogaaa
