/-
  leb.Lay of any fields, whether they fit or not; pack.lay.
  pack.list of versions, whether it fits or not (written by gen_listx.py).
  pack.PutItems and GetItems of any items, whether they fit or not.
-/
import Derived.Test.YtmbgakjkhgdjnaaGreatDoorQaD
import Derived.Test.YtmbgakjkhgdjnaaGreatDoorQbF
import Derived.Test.YtmbgakjkhgdjnaaGreatDoorQbI
namespace Go.Proofs.YtmbgakjkhgdjnaaGreatDoor
set_option linter.unusedSimpArgs false
set_option linter.unusedVariables false
open Go.RowKit

/-- What stands in the bytes behind these fields: nothing is put any more once there is too much. -/
def accL (l : List FldI) : List UInt8 := l.foldl (fun acc f => if acc.length ≤ 65536 then acc ++ f.enc else acc) []
theorem accL_take {l : List FldI} {k : Nat} (h : k < l.length) : accL (l.take (k + 1)) = if (accL (l.take k)).length ≤ 65536 then accL (l.take k) ++ l[k].enc else accL (l.take k) := by
  unfold accL
  rw [List.take_succ_eq_append_getElem h, List.foldl_append]
  rfl
theorem accL_or (l : List FldI) : ∀ k, k ≤ l.length → accL (l.take k) = encL (l.take k) ∨ (65536 < (accL (l.take k)).length ∧ 65536 < (encL (l.take k)).length)
  | 0, _ => by left; rw [List.take_zero]; rfl
  | k + 1, hk => by
    have hlt : k < l.length := by omega
    have ih := accL_or l k (by omega)
    rw [accL_take hlt, encL_take hlt]
    rcases ih with ih | ⟨i1, i2⟩
    · by_cases hl : (accL (l.take k)).length ≤ 65536
      · rw [if_pos hl, ih]; exact .inl rfl
      · rw [if_neg hl]
        right
        rw [ih] at hl ⊢
        rw [List.length_append]
        exact ⟨by omega, by omega⟩
    · right
      rw [if_neg (by omega), List.length_append]
      exact ⟨i1, by omega⟩
theorem accL_fit {l : List FldI} (h : (encL l).length ≤ 65536) : accL l = encL l := by
  have := accL_or l l.length (Nat.le_refl _)
  rw [List.take_length] at this
  rcases this with h1 | ⟨_, h2⟩
  · exact h1
  · omega
theorem accL_big {l : List FldI} (h : 65536 < (encL l).length) : 65536 < (accL l).length := by
  have := accL_or l l.length (Nat.le_refl _)
  rw [List.take_length] at this
  rcases this with h1 | ⟨h2, _⟩
  · rw [h1]; exact h
  · exact h2
/-- Bytes, if they are not too many. -/
def capB (s : ByteArray) : ByteArray := if s.size ≤ 65536 then s else ⟨#[]⟩
/-- The bytes of fields. -/
def capL (l : List FldI) : ByteArray := capB ⟨(encL l).toArray⟩
theorem capL_fit {l : List FldI} (h : (encL l).length ≤ 65536) : capL l = ⟨(encL l).toArray⟩ := if_pos h
theorem capL_big {l : List FldI} (h : ¬ (encL l).length ≤ 65536) : capL l = ⟨#[]⟩ := if_neg h
theorem capB_le (s : ByteArray) : (capB s).size ≤ 65536 := by
  unfold capB
  split
  · assumption
  · exact Nat.zero_le _
set_option maxRecDepth 100000 in
set_option maxHeartbeats 8000000 in
theorem putBig_c (w : World) (q : Nat) (f : FldI) (A : Option Addr) (n c : Nat) (hn : 65536 < n) (hq : Blk w q 57 #[.slice A n c]) : Calls Tryz.prog 127 #[.agg #[.int .i64 f.n, .string f.s, .bool f.t], .pointer (some ⟨q, 0, none⟩)] w (fun en w' => en = .returned (.tuple #[]) ∧ Ext w w') := by
  have HQ1 := hid (hq.alloc (.cells #[.int .i64 f.n, .string f.s, .bool f.t] 146))
  have X1 := hid (Ext.alloc w (.cells #[.int .i64 f.n, .string f.s, .bool f.t] 146))
  have d0 : decide ((65536 : Int) < n) = true := decide_eq_true (by omega)
  have d0' : decide (65536 < n) = true := decide_eq_true (by omega)
  have q0 := HQ1.out.cell (i := 0) (v := .slice A n c) rfl
  have ql := HQ1.out.lt
  clear hq hn
  go_enter Tryz.func127, Tryz.ntmps127
  go_wp2_with fail
  go_end0
  exact ⟨rfl, X1.out⟩
set_option maxRecDepth 100000 in
set_option maxHeartbeats 8000000 in
theorem layx_c (w : World) (v : Value) (l : List FldI) (h : Sl w 3 v (l.map FldI.cells)) (hok : ∀ f ∈ l, f.ok) (hpos : 0 < l.length) : Calls Tryz.prog 78 #[v] w (Ret (.tuple #[.string (capL l), .int .i64 (if (encL l).length ≤ 65536 then 0 else 4)]) w) := by
  by_cases htot : (encL l).length ≤ 65536
  · rw [capL_fit htot, if_pos htot]
    exact lay_c w v l h hok hpos htot
  rw [capL_big htot, if_neg htot]
  obtain ⟨A, c, rfl, h1, h2, h3⟩ := sl_get h
  unfold maxLen at h2
  obtain ⟨b, o, rfl, lb, hcell⟩ := h3 hpos
  have HBig := hid (accL_big (l := l) (by omega))
  have HQ0 := hid (Blk.new w 57 #[.slice none 0 0])
  have HE0 := hid (Ext.alloc w (.cells #[.slice none 0 0] 57))
  have HOk := hid (fun k (hk : k < l.length) => hok _ (List.getElem_mem hk))
  have HC := hid hcell
  have hql := Nat.le_refl w.heap.size
  clear h h3 hcell hok htot
  go_enter Tryz.func78, Tryz.ntmps78
  go_wp2_with fail
  generalize w.alloc (.cells #[.slice none 0 0] 57) = w0 at HQ0 HE0 ⊢
  generalize hq : w.heap.size = q at HQ0 ⊢
  have hq' : w.heap.size ≤ q := by omega
  clear hq hql
  go_loopw [13] (fun i wr => ∃ k : Nat, k ≤ l.length ∧ i = .int .i64 k ∧ Hid (Ext w0 wr)) (fun i _ => l.length - (intOf i).toNat)
  case atStart => exact ⟨0, by omega, rfl, Ext.refl _⟩
  case round =>
    obtain ⟨k, hk, rfl, HE⟩ := hrel
    by_cases hlt : k < l.length
    · have hf := HOk.out k hlt
      have c0 := (HE0.out.trans HE.out).cell (HC.out k hlt 0 _ rfl)
      have c1 := (HE0.out.trans HE.out).cell (HC.out k hlt 1 _ rfl)
      have c2 := (HE0.out.trans HE.out).cell (HC.out k hlt 2 _ rfl)
      rw [Nat.add_zero] at c0
      have lbr := Nat.lt_of_lt_of_le lb (HE0.out.trans HE.out).size
      obtain ⟨f1, f2, f3⟩ := hf
      generalize l[k] = f at c0 c1 c2 f1 f2 f3
      obtain ⟨n, s, t⟩ := f
      dsimp only at c0 c1 c2 f1 f2 f3
      cases t with
      | true =>
        clear f1 f2 f3
        go_wp2_with fail
        go_roundw
        case rel => exact ⟨k + 1, by omega, by go_num, HE.out.trans (Ext.alloc _ _)⟩
        case measure => simp [intOf]; omega
      | false =>
        have dn : decide (n < 0) = false := decide_eq_false (by have := f2 rfl; omega)
        clear f1 f2 f3
        go_wp2_with fail
        go_roundw
        case rel => exact ⟨k + 1, by omega, by go_num, HE.out.trans (Ext.alloc _ _)⟩
        case measure => simp [intOf]; omega
    · obtain rfl : k = l.length := by omega
      have HQ1 := hid (HQ0.out.ext HE.out)
      have HE1 := hid (HE0.out.trans HE.out)
      clear HQ0 HE0 HE
      go_wp2_with fail
      go_loopw [28] (fun i W => ∃ (k : Nat) (bv : Value), k ≤ l.length ∧ i = .int .i64 k ∧ Hid (Ext w W) ∧ Hid (Blk W q 57 #[bv]) ∧ Hid (OwnB (accL (l.take k)) w.heap.size bv W) ∧ Hid (bv.ownBlock ≠ some q)) (fun i _ => l.length - (intOf i).toNat)
      case atStart => exact ⟨0, _, by omega, rfl, HE1.out, HQ1.out, by rw [List.take_zero]; exact OwnB.nil _ _, by unfold Hid; simp [Value.ownBlock]⟩
      case round =>
        obtain ⟨k, bv, hk2, rfl, HE2, HQ2, HO2, HN2⟩ := hrel
        by_cases hlt2 : k < l.length
        · have hf := HOk.out k hlt2
          have c0 := HE2.out.cell (HC.out k hlt2 0 _ rfl)
          have c1 := HE2.out.cell (HC.out k hlt2 1 _ rfl)
          have c2 := HE2.out.cell (HC.out k hlt2 2 _ rfl)
          rw [Nat.add_zero] at c0
          have lbr := Nat.lt_of_lt_of_le lb HE2.out.size
          have HT := hid (accL_take hlt2)
          have HP : Hid (∀ W, Ext wr W → Calls Tryz.prog 127 #[.agg #[.int .i64 l[k].n, .string l[k].s, .bool l[k].t], .pointer (some ⟨q, 0, none⟩)] W (PutTo W q w.heap.size bv (accL (l.take (k + 1))))) := fun W hW => by
            rw [accL_take hlt2]
            by_cases hfit : (accL (l.take k)).length ≤ 65536
            · rw [if_pos hfit]
              exact put_c W q w.heap.size l[k] (accL (l.take k)) bv hf (HQ2.out.ext hW) (HO2.out.ext hW) (Nat.le_trans HE2.out.size hW.size) HN2.out hfit
            · rw [if_neg hfit]
              have ho := HO2.out.ext hW
              have hb := HQ2.out.ext hW
              have hn := HN2.out
              obtain ⟨A3, c3, rfl, _⟩ := sl_get (code := byteC) ho.sl
              refine (putBig_c W q l[k] A3 _ c3 (by omega) hb).mono ?_
              rintro en W' ⟨rfl, x⟩
              exact ⟨rfl, _, hb.ext x, ho.ext x, hn, Keep.of_ext x⟩
          clear hf HT
          generalize hacc : accL (l.take (k + 1)) = acc' at HP
          have HA := hid hacc
          clear hacc
          generalize l[k] = f at c0 c1 c2 HP
          obtain ⟨n, s, t⟩ := f
          dsimp only at c0 c1 c2 HP
          go_wp2_with fail
          refine ((HP.out _ (Ext.alloc _ _))).mono ?_
          rintro en w3 ⟨rfl, v', g1, g2, g3, g4⟩
          have HQ3 := hid g1
          have HO3 := hid g2
          have HN3 := hid g3
          have HE3 : Hid (Ext w w3) := g4.toExt (HE2.out.trans (Ext.alloc _ _)) fun g hg => by
            rcases hg with rfl | hg
            · exact hq'
            · exact (row_block HO2.out.2 g hg).1
          clear g1 g2 g3 g4 HP
          go_wp2_with fail
          go_roundw
          case rel => exact ⟨k + 1, v', by omega, by go_num, HE3.out, HQ3.out, by rw [HA.out]; exact HO3.out, HN3.out⟩
          case measure => simp [intOf]; omega
        · obtain rfl : k = l.length := by omega
          rw [List.take_length] at HO2
          have hbig := HBig.out
          generalize accL l = acc at HO2 hbig
          obtain ⟨A3, c3, rfl, _⟩ := sl_get (code := byteC) HO2.out.sl
          have b0 := HQ2.out.cell (i := 0) (v := .slice A3 acc.length c3) rfl
          have bl := HQ2.out.lt
          have dl : decide ((65536 : Int) < acc.length) = true := decide_eq_true (by omega)
          have dl' : decide (65536 < acc.length) = true := decide_eq_true (by omega)
          clear HOk HC
          go_wp2_with fail
          go_ret2
          exact ⟨rfl, HE2.out⟩
set_option maxRecDepth 100000 in
set_option maxHeartbeats 1000000 in
theorem playx_c (w : World) (v : Value) (l : List FldI) (h : Sl w 3 v (l.map FldI.cells)) (hok : ∀ f ∈ l, f.ok) (hpos : 0 < l.length) : Calls Tryz.prog 100 #[v] w (Ret (.string (capL l)) w) := by
  have HL := hid (layx_c w v l h hok hpos)
  obtain ⟨A, c, rfl, _⟩ := sl_get h
  clear h hok
  generalize capL l = r at HL ⊢
  generalize (if (encL l).length ≤ 65536 then (0 : Int) else 4) = z at HL
  go_enter Tryz.func100, Tryz.ntmps100
  go_wp2_with fail
  refine (HL.out).mono ?_
  rintro e w1 ⟨rfl, x1⟩
  go_wp2_with fail
  go_ret
  exact ⟨rfl, x1⟩
end Go.Proofs.YtmbgakjkhgdjnaaGreatDoor
namespace Go.Proofs.YtmbgakjkhgdjnaaGreatDoor
set_option linter.unusedSimpArgs false
set_option linter.unusedVariables false
open Go.RowKit

theorem listB_mem {α : Type} {enc : α → ByteArray} {x : α} : ∀ {l : List α}, x ∈ l → (enc x).size ≤ (encL (l.map fun x => fT (enc x))).length
  | [], h => by cases h
  | y :: l, h => by
    have h1 : (fT (enc y)).enc.length = (lebL (enc y).size).length + (enc y).size := by
      show (lebL (enc y).size ++ (enc y).data.toList).length = _
      rw [List.length_append, Array.length_toList]; rfl
    rw [List.map_cons, encL_cons, List.length_append, h1]
    rcases List.mem_cons.1 h with rfl | h
    · omega
    · have := listB_mem (enc := enc) h; omega
theorem capB_list {α : Type} {enc : α → ByteArray} {l : List α} {x : α} (hx : x ∈ l) (hb : ¬ (enc x).size ≤ 65536) : capB (listB enc l) = ⟨#[]⟩ := by
  refine if_neg ?_
  rw [listB_size, encL_cons, List.length_append]
  have := listB_mem (enc := enc) hx
  omega
set_option maxRecDepth 100000 in
set_option maxHeartbeats 4000000 in
theorem listVx_c (w : World) (v : Value) (l : List Ver) (enc : Ver → ByteArray) (h : Sl w 2 v (l.map Ver.cells)) (hl : l.length ≤ 100000) (hone : ∀ x ∈ l, ∀ W, Ext w W → Calls Tryz.prog 91 #[.agg #[.int .i64 x.by_, .int .i64 x.n]] W (Ret (.string (capB (enc x))) W)) (hpos : ∀ x ∈ l, 0 < (enc x).size) : Calls Tryz.prog 89 #[v, .func (.func 91) #[] #[]] w (Ret (.string (capB (listB enc l))) w) := by
  obtain ⟨A, c, rfl, h1, h2, h3⟩ := sl_get h
  unfold maxLen at h2
  have HN := fun W n => hid (fN_c W n)
  have HT := fun W s => hid (fT_c W s)
  have HOne := hid hone
  have HPos := hid hpos
  have HBig := hid (fun x (hx : x ∈ l) (hb : ¬ (enc x).size ≤ 65536) => capB_list hx hb)
  have HP := fun (hfit : ∀ x ∈ l, (enc x).size ≤ 65536) W u (h : Sl W 3 u ((fN l.length :: l.map (fun x => fT (enc x))).map FldI.cells)) => hid (playx_c W u (fN l.length :: l.map (fun x => fT (enc x))) h (fun f hf => by
    rcases List.mem_cons.1 hf with rfl | hf
    · exact ⟨Nat.zero_le _, fun _ => Int.natCast_nonneg _, by show (l.length : Int) ≤ _; omega⟩
    · obtain ⟨x, hx, rfl⟩ := List.mem_map.1 hf
      exact ⟨hfit x hx, fun h => (by (have h : true = false := h); cases h), by show (0 : Int) ≤ _; omega⟩) (by simp))
  have e9 : capL (fN l.length :: l.map (fun x => fT (enc x))) = capB (listB enc l) := rfl
  rw [e9] at HP
  generalize capB (listB enc l) = R at HP HBig ⊢
  have H3 := hid h3
  clear h h3 hone hpos e9
  go_enter Tryz.func89, Tryz.ntmps89
  go_wp2_with fail
  refine ((HN _ _).out).mono ?_
  rintro en w1 ⟨rfl, x1⟩
  have HE1 := hid x1
  clear x1
  have HF0 : Hid (OwnF [fN l.length] w.heap.size (.slice (some ⟨w1.heap.size, 0, none⟩) 1 1) (w1.alloc (.cells #[.int .i64 l.length, .string ⟨#[]⟩, .bool false] 146))) := own_lit HE1.out.size 146 3 1 #[.int .i64 l.length, .string ⟨#[]⟩, .bool false] (by unfold maxLen; omega) rfl
  have HE2 := hid (HE1.out.alloc' (.cells #[.int .i64 l.length, .string ⟨#[]⟩, .bool false] 146))
  go_wp2_with fail
  generalize w1.alloc (.cells #[.int .i64 l.length, .string ⟨#[]⟩, .bool false] 146) = w2 at HF0 HE2 ⊢
  obtain ⟨v0, hv0⟩ : ∃ v0, v0 = Value.slice (some ⟨w1.heap.size, 0, none⟩) 1 1 := ⟨_, rfl⟩
  go_loopw [5, 15] (fun s5 s15 wr => ∃ (k : Nat) (ov : Value), ov = s5 ∧ k ≤ l.length ∧ s15 = .int .i64 k ∧ Hid (Ext w wr) ∧ Hid (∀ x ∈ l.take k, (enc x).size ≤ 65536) ∧ Hid (OwnF (fN l.length :: (l.take k).map (fun x => fT (enc x))) w.heap.size s5 wr)) (fun _ s15 _ => l.length - (intOf s15).toNat)
  case atStart => exact ⟨0, _, rfl, by omega, rfl, HE2, fun x hx => by simp at hx, HF0⟩
  case round =>
    obtain ⟨k, s5, rfl, hk, rfl, hE, hFit, hO⟩ := hrel
    clear HF0 HE2 HE1 hv0 HN
    by_cases hlt : k < l.length
    · have d1 : decide ((k : Int) < l.length) = true := decide_eq_true (by omega)
      have d1' : decide (k < l.length) = true := decide_eq_true hlt
      obtain ⟨b, o, rfl, lb, hcell⟩ := H3.out (by omega)
      have c0 := hE.out.cell (hcell k hlt 0 _ rfl)
      have c1 := hE.out.cell (hcell k hlt 1 _ rfl)
      rw [Nat.add_zero] at c0
      have lbr := Nat.lt_of_lt_of_le lb hE.out.size
      have HM : Hid ((l.take (k + 1)).map (fun x => fT (enc x)) = (l.take k).map (fun x => fT (enc x)) ++ [fT (enc l[k])]) := by
        unfold Hid
        rw [List.take_succ_eq_append_getElem hlt, List.map_append]; rfl
      have HC := HOne.out l[k] (List.getElem_mem hlt)
      have hp := (HPos.out l[k] (List.getElem_mem hlt))
      have HBk := hid (HBig.out l[k] (List.getElem_mem hlt))
      have HFt : Hid ((enc l[k]).size ≤ 65536 → ∀ x ∈ l.take (k + 1), (enc x).size ≤ 65536) := fun h9 x hx => by
        rw [List.take_succ_eq_append_getElem hlt] at hx
        rcases List.mem_append.1 hx with hx | hx
        · exact hFit.out x hx
        · rw [List.mem_singleton.1 hx]; exact h9
      have hlen : ((l.take k).map (fun x => fT (enc x))).length ≤ 100000 := by rw [List.length_map, List.length_take]; omega
      clear H3 hcell HOne HPos HP HBig hFit
      generalize hacc1 : (l.take (k + 1)).map (fun x => fT (enc x)) = acc1 at HM
      have HA1 := hid hacc1
      clear hacc1
      generalize hacc : (l.take k).map (fun x => fT (enc x)) = acc at hO HM hlen
      clear hacc
      generalize l[k] = x at c0 c1 HC HM hp HBk HFt
      by_cases hfit : (enc x).size ≤ 65536
      · have hcap : capB (enc x) = enc x := if_pos hfit
        rw [hcap] at HC
        have HFt := hid (HFt.out hfit)
        have d0 : (enc x).toList.isEmpty = false := by
          cases h : (enc x).toList.isEmpty with
          | false => rfl
          | true => rw [← size_toL, List.isEmpty_iff.1 h] at hp; exact absurd hp (by decide)
        clear hp hfit hcap HBk
        generalize enc x = r at HC HM d0
        go_wp2_with fail
        refine (HC _ (hE.out.alloc' _)).mono ?_
        rintro en w3 ⟨rfl, x3⟩
        have hO3 := hid (hO.out.ext ((Ext.alloc _ _).trans x3))
        have hE3 := hid (hE.out.trans ((Ext.alloc _ _).trans x3))
        clear x3 c0 c1 lbr lb hE hO HC
        go_wp2_with fail
        refine ((HT _ _).out).mono ?_
        rintro en w4 ⟨rfl, x4⟩
        have hO4 := hid (hO3.out.ext x4)
        have hE4 := hid (hE3.out.trans x4)
        clear x4 hO3 hE3
        obtain ⟨v', w6, hrun6, ho6, hk6, _⟩ := app_one (P := Tryz.prog) fld_elem fld_coded hO4.out hE4.out.size (fT r) (by simp; omega) (by omega)
        simp only [FldI.cells, fT] at hrun6
        have HE6 := hid (hk6.toExt hE4.out (fun q hq => (row_block hO4.out q hq).1))
        have HO6 : Hid (OwnF (fN l.length :: acc1) w.heap.size v' w6) := by
          rw [HM.out]; exact ho6
        clear ho6 hk6
        go_wp2_with (at_builtin; refine wpList_app rfl (.tmp 24) (.tmp 27) _ _ rfl rfl rfl hrun6 ?_)
        go_roundw
        case rel => exact ⟨k + 1, _, rfl, by omega, by go_num, HE6, HFt.out, by rw [HA1.out]; exact HO6⟩
        case measure => simp [intOf]; omega
      · have hcap : capB (enc x) = ⟨#[]⟩ := if_neg hfit
        rw [hcap] at HC
        have HR := hid (HBk.out hfit)
        clear hp hfit hcap HBk HFt HM HA1 HT
        go_wp2_with fail
        refine (HC _ (hE.out.alloc' _)).mono ?_
        rintro en w3 ⟨rfl, x3⟩
        have hE3 := hid (hE.out.trans ((Ext.alloc _ _).trans x3))
        clear x3 c0 c1 lbr lb hE hO HC
        go_wp2_with fail
        go_ret
        exact ⟨by rw [HR.out]; try rfl, hE3.out⟩
    · obtain rfl : k = l.length := by omega
      rw [List.take_length] at hO hFit
      have HS := hid hO.out.sl
      have HP' := HP hFit.out
      clear hlt hk H3 HOne HPos hO HT HP HBig
      go_wp2_with fail
      refine ((HP' _ _ HS.out).out).mono ?_
      rintro en w7 ⟨rfl, x7⟩
      have HE7 := hid (hE.out.trans x7)
      clear x7
      go_wp2_with fail
      go_ret
      exact ⟨rfl, HE7.out⟩
end Go.Proofs.YtmbgakjkhgdjnaaGreatDoor
namespace Go.Proofs.YtmbgakjkhgdjnaaGreatDoor
set_option linter.unusedSimpArgs false
set_option linter.unusedVariables false
open Go.RowKit

/-- What is answered of bytes that may be, and fit. -/
def putX (b : Bool) (s : ByteArray) : ByteArray := if b = true then capB s else ⟨#[]⟩
def errX (b : Bool) (s : ByteArray) : Int := if b = true then (if s.size ≤ 65536 then 0 else 4) else 2
theorem errX_zero {b : Bool} {s : ByteArray} : errX b s = 0 ↔ b = true ∧ s.size ≤ 65536 := by
  unfold errX
  cases b with
  | false => simp
  | true =>
    by_cases h : s.size ≤ 65536
    · rw [if_pos rfl, if_pos h]; simp [h]
    · rw [if_pos rfl, if_neg h]; simp [h]
theorem putX_ok {b : Bool} {s : ByteArray} (h : errX b s = 0) : putX b s = s := by
  obtain ⟨h1, h2⟩ := errX_zero.1 h
  unfold putX capB
  rw [if_pos h1, if_pos h2]
theorem putX_no {b : Bool} {s : ByteArray} (h : errX b s ≠ 0) : putX b s = ⟨#[]⟩ := by
  unfold putX capB
  by_cases h1 : b = true
  · rw [if_pos h1]
    by_cases h2 : s.size ≤ 65536
    · exact absurd (errX_zero.2 ⟨h1, h2⟩) h
    · rw [if_neg h2]
  · rw [if_neg h1]
/-- Got is what would be put so, and nothing else. -/
theorem gotX {b : Bool} {s t : ByteArray} (ht : t.size ≤ 65536) : (errX b s = 0 ∧ putX b s = t) ↔ (b = true ∧ s = t) := by
  constructor
  · rintro ⟨h1, h2⟩
    rw [putX_ok h1] at h2
    exact ⟨(errX_zero.1 h1).1, h2⟩
  · rintro ⟨h1, rfl⟩
    have h0 := errX_zero.2 ⟨h1, ht⟩
    exact ⟨h0, putX_ok h0⟩
theorem fits_cap {s : ByteArray} (hs : s.size ≠ 0) : (if true = true ∧ (capB s).size ≠ 0 then capB s else ⟨#[]⟩) = putX true s ∧ (if true = true then (if (capB s).size ≠ 0 then (0 : Int) else 4) else 2) = errX true s := by
  unfold putX errX capB
  by_cases h : s.size ≤ 65536
  · rw [if_pos h, if_pos h, if_pos ⟨rfl, hs⟩, if_pos rfl, if_pos rfl, if_pos rfl, if_pos hs]
    exact ⟨rfl, rfl⟩
  · rw [if_neg h, if_neg h]
    exact ⟨rfl, rfl⟩
set_option maxRecDepth 100000 in
set_option maxHeartbeats 4000000 in
theorem putIx_c (w : World) (v : Value) (f : List Ver) (h : Sl w 2 v (f.map Ver.cells)) (hl : f.length ≤ 90000) (hs : ∀ c ∈ f, ver64 c) : Calls Tryz.prog 103 #[v] w (Ret (.tuple #[.string (putX (itemsB f) (listB verB f)), .int .i64 (errX (itemsB f) (listB verB f))]) w) := by
  have HC := hid (items_c w v f h (by omega))
  have HF := fun W s b => hid (fits_c W s b)
  cases hb : itemsB f with
  | false =>
    rw [hb] at HC
    rw [show putX false (listB verB f) = ⟨#[]⟩ from rfl, show errX false (listB verB f) = 2 from rfl]
    obtain ⟨A, c, rfl, _⟩ := sl_get h
    clear h hs hb HF
    go_enter Tryz.func103, Tryz.ntmps103
    go_wp2_with fail
    refine (HC.out).mono ?_
    rintro e w1 ⟨rfl, x1⟩
    have X1 := hid x1
    clear x1
    go_wp2_with fail
    go_ret2
    exact ⟨rfl, X1.out⟩
  | true =>
    have hok := itemsB_ok hb hs
    have HL := fun W (hW : Ext w W) => hid (listVx_c W v f verB (h.ext hW) (by omega) (fun x hx W' _ => by
      have := one_c W' x (hok x hx)
      rw [show capB (verB x) = verB x from if_pos (by have := verB_okle (hok x hx); omega)]
      exact this) (fun x hx => verB_pos (hok x hx)))
    have hpos := listB_pos verB f
    rw [hb] at HC
    generalize listB verB f = s at HL hpos ⊢
    have HFs := fun W => HF W (capB s) true
    rw [(fits_cap hpos).1, (fits_cap hpos).2] at HFs
    obtain ⟨A, c, rfl, _⟩ := sl_get h
    clear h hs hb HF hok hpos
    generalize capB s = r at HL HFs
    generalize putX true s = r2 at HFs ⊢
    generalize errX true s = z2 at HFs ⊢
    go_enter Tryz.func103, Tryz.ntmps103
    go_wp2_with fail
    refine (HC.out).mono ?_
    rintro e w1 ⟨rfl, x1⟩
    have X1 := hid x1
    clear x1
    go_wp2_with fail
    refine ((HL _ X1.out).out).mono ?_
    rintro e w2 ⟨rfl, x2⟩
    have X2 := hid (X1.out.trans x2)
    clear x2
    go_wp2_with fail
    refine ((HFs _).out).mono ?_
    rintro e w3 ⟨rfl, x3⟩
    have X3 := hid (X2.out.trans x3)
    clear x3
    go_wp2_with fail
    go_ret2
    exact ⟨rfl, X3.out⟩
set_option maxRecDepth 100000 in
set_option maxHeartbeats 4000000 in
theorem getIx_c (w : World) (s : ByteArray) (hs : s.size ≤ 65536) : Calls Tryz.prog 111 #[.string s] w (fun en w' => ∃ (v : Value) (l : List Ver) (z : Int), en = .returned (.tuple #[v, .int .i64 z]) ∧ Ext w w' ∧ ((z = 0 ∧ itemsB l = true ∧ listB verB l = s ∧ RowAt Ver.cells 2 l v w' ∧ (∀ c ∈ l, okVer c) ∧ l.length ≤ s.size ∧ w'.ownsRow w.heap.size 60 2 v l.length (l.map Ver.cells).flatten) ∨ (z = 6 ∧ v = .slice none 0 0)) ∧ (∀ f : List Ver, (∀ c ∈ f, ver64 c) → f.length ≤ 90000 → itemsB f = true → s = listB verB f → z = 0 ∧ l = f)) := by
  have HP := fun W => hid (partsV_c W s (by omega) verB okVer (fun W' t ht _ => (read_c W' t (by omega)).mono fun en w' ⟨z1, z2, e, h1, h2, h3, h4, h5⟩ => ⟨⟨z1, z2⟩, e, h1, ⟨Int.natCast_nonneg _, by show (z1 : Int) ≤ _; omega, Int.natCast_nonneg _, by show (z2 : Int) ≤ _; omega⟩, h4, fun x0 a b => by
    obtain ⟨c, d⟩ := h5 x0 a b
    exact ⟨c.symm, d⟩⟩))
  have HPF := fun W v l h h1 h2 => hid (putIx_c W v l h h1 h2)
  go_enter Tryz.func111, Tryz.ntmps111
  go_wp2_with fail
  refine ((HP _).out).mono ?_
  rintro en w1 ⟨v, b, l, rfl, hrow, hl1, hg, x1, hb, hty⟩
  have HLl := hid hl1
  have HRow := hid hrow
  have HTy := hid hty
  have X1 := hid x1
  have HG := hid hg
  have HB := hid hb
  have HS := hid (sameI_c w1 v s _ _ (fun W hW => HPF W v l (hrow.1.ext hW) (by omega) (fun c hc => ver64_ok (hg c hc))))
  simp only [gotX hs] at HS
  have HSs := hid hs
  clear hrow x1 hg hb HP HPF hs hl1 hty
  go_wp2_with fail
  refine (HS.out).mono ?_
  rintro en w2 ⟨rfl, x2⟩
  have HRow2 := hid (HRow.out.ext x2)
  have HTy2 := hid (ownsRow_ext HTy.out x2)
  have X2 := hid (X1.out.trans x2)
  clear x2 X1 HRow HS
  have HD : Hid (∀ f : List Ver, (∀ c ∈ f, ver64 c) → f.length ≤ 90000 → itemsB f = true → s = listB verB f → (itemsB l = true ∧ listB verB l = s) ∧ l = f) := fun f a8 a9 a0 a1 => by
    have hok := itemsB_ok a0 a8
    obtain rfl := HB.out f hok (by omega) a1
    exact ⟨⟨a0, a1.symm⟩, rfl⟩
  by_cases hc : itemsB l = true ∧ listB verB l = s
  · rw [if_pos hc, if_pos hc]
    have HC := hid hc.1
    have HE := hid hc.2
    clear hc HB
    go_wp2_with fail
    go_ret2
    exact ⟨v, l, 0, rfl, X2.out, .inl ⟨rfl, HC.out, HE.out, HRow2.out, HG.out, HLl.out, HTy2.out⟩, fun f a8 a9 a b => ⟨rfl, (HD.out f a8 a9 a b).2⟩⟩
  · rw [if_neg hc, if_neg hc]
    have HN := hid hc
    clear hc HB
    go_wp2_with fail
    go_ret2
    exact ⟨_, l, 6, rfl, X2.out, .inr ⟨rfl, rfl⟩, fun f a8 a9 a b => absurd (HD.out f a8 a9 a b).1 HN.out⟩
end Go.Proofs.YtmbgakjkhgdjnaaGreatDoor
