/-
  The document's Prefixes and Above.
-/
import Derived.Test.YtgkdiknmjgpgmaaGreatDoorFqA
namespace Go.Proofs.YtgkdiknmjgpgmaaGreatDoor
set_option linter.unusedSimpArgs false
set_option linter.unusedVariables false
open Go.RowKit Go.Sort

theorem preS_take {l : List ClauseI} {k : Nat} (h : k < l.length) : preS (l.take (k + 1)) = insL blt l[k].pre (preS (l.take k)) := by
  unfold preS
  rw [List.take_succ_eq_append_getElem h, List.map_append]
  exact setL_snoc _ _
theorem row_weak {w : World} {B B' : Nat} {e : TypeId} {sz : Nat} {v : Value} {n : Nat} {xs : List Value} (h : w.ownsRow B e sz v n xs) (hB : B' ≤ B) : w.ownsRow B' e sz v n xs := by
  obtain ⟨h1, h2 | ⟨g, cap, cs, h3, h4, h5⟩⟩ := h
  · exact ⟨h1, .inl h2⟩
  · exact ⟨h1, .inr ⟨g, cap, cs, h3, Nat.le_trans hB h4, h5⟩⟩
/-- A row of one's own, made since. -/
def OwnS (l : List ByteArray) (B : Nat) (v : Value) (w : World) : Prop := (l.length = 0 → v = .slice none 0 0) ∧ w.ownsRow B 9 1 v l.length (l.map strC).flatten
theorem OwnS.row {l : List ByteArray} {B : Nat} {v : Value} {w : World} (h : OwnS l B v w) : RowAt strC 1 l v w := RowAt.of_row str_coded h.2 h.1
theorem OwnS.ext {l : List ByteArray} {B : Nat} {v : Value} {w w' : World} (h : OwnS l B v w) (he : Ext w w') : OwnS l B v w' := ⟨h.1, ownsRow_ext h.2 he⟩
set_option maxRecDepth 100000 in
set_option maxHeartbeats 4000000 in
theorem rprefixes_f (w : World) (v : Value) (l : List ClauseI) (h : Sl w 3 v (l.map ClauseI.cells)) (hl : l.length ≤ 5000) : Calls Tryz.prog 23 #[v] w (RetQ (OwnS (preS l) w.heap.size) w) := by
  obtain ⟨A, c, rfl, h1, h2, h3⟩ := sl_get h
  unfold maxLen at h2
  clear h
  go_enter Tryz.func23, Tryz.ntmps23
  go_wp2_with fail
  go_loopw [3, 4] (fun v i wr => ∃ (k : Nat) (ov : Value), k ≤ l.length ∧ i = .int .i64 k ∧ ov = v ∧ Ext w wr ∧ OwnS (preS (l.take k)) w.heap.size ov wr) (fun _ i _ => l.length - (intOf i).toNat)
  case atStart => exact ⟨0, _, by omega, rfl, rfl, Ext.refl _, fun _ => rfl, ownsRow_nil _ _ _ _⟩
  case round =>
    obtain ⟨k, v, hk, rfl, rfl, hE, hR⟩ := hrel
    have HE := hid hE
    by_cases hlt : k < l.length
    · obtain ⟨b', o', rfl, lb', hcell'⟩ := h3 (by omega)
      have c0 := hE.cell (hcell' k hlt 0 _ rfl)
      rw [Nat.add_zero] at c0
      have lbr := Nat.lt_of_lt_of_le lb' hE.size
      have HP1 := hid (preS_take hlt)
      have hal := preS_len (l.take k)
      rw [List.length_take] at hal
      have hnil := hR.1
      have HR := hid hR
      obtain ⟨A2, c2, rfl, g1, g2, g3⟩ := sl_get hR.row.1
      unfold maxLen at g2
      clear hE hcell' h3 hR
      generalize l[k].pre = p at c0 HP1
      generalize preS (l.take k) = acc at *
      have hr := rankL_le (lt := blt) p acc
      have hlow := rankL_lt (lt := blt) p acc
      have hat := rankL_at (lt := blt) p acc
      have HP : Hid (insL blt p acc = if acc[rankL blt p acc]? = some p then acc else acc.take (rankL blt p acc) ++ p :: acc.drop (rankL blt p acc)) := rfl
      have HN := hid hnil
      clear hnil
      generalize rankL blt p acc = r at hr hlow hat HP
      generalize insL blt p acc = out at HP HP1
      have HLow := hid hlow
      have HAt := hid hat
      clear hlow hat
      go_wp2_with fail
      go_loopw [6] (fun i WI => ∃ j : Nat, j ≤ r ∧ i = .int .i64 j ∧ Ext wr WI) (fun i _ => r - (intOf i).toNat)
      case atStart => exact ⟨0, by omega, rfl, Ext.refl _⟩
      case round =>
        obtain ⟨j, hj, rfl, hEi⟩ := hrel
        have HEi := hid (HE.out.trans hEi)
        by_cases hjr : j < r
        · have hjl : j < acc.length := by omega
          obtain ⟨b, o, rfl, lb, hcell⟩ := g3 (by omega)
          have d0 := hEi.cell (hcell j hjl 0 (.string acc[j]) rfl)
          simp only [Nat.mul_one, Nat.add_zero] at d0
          have lbw := Nat.lt_of_lt_of_le lb hEi.size
          have hb : Op.bytesLess acc[j].toList p.toList = true := HLow.out j hjl hjr
          have HE3 := hid hEi
          clear hcell g3 hEi
          generalize acc[j] = z at d0 hb
          go_wp2_with fail
          go_roundw
          case rel => exact ⟨j + 1, by omega, by go_num, HE3.out⟩
          case measure => simp [intOf]; omega
        · obtain rfl : j = r := by omega
          by_cases hjl : j < acc.length
          · obtain ⟨b, o, rfl, lb, hcell⟩ := g3 (by omega)
            have d0 := hEi.cell (hcell j hjl 0 (.string acc[j]) rfl)
            simp only [Nat.mul_one, Nat.add_zero] at d0
            have lbw := Nat.lt_of_lt_of_le lb hEi.size
            have hb : Op.bytesLess acc[j].toList p.toList = false := HAt.out hjl
            have HL := hid hcell
            have HQ : Hid (acc[j]? = some acc[j]) := List.getElem?_eq_getElem hjl
            have HE3 := hid hEi
            have dj : ((j : Int) == acc.length) = false := by simp; omega
            have djl : decide (j < acc.length) = true := decide_eq_true hjl
            clear hcell g3 hEi hjr HLow HAt
            generalize acc[j] = z at d0 hb HQ
            by_cases hz : z = p
            · subst hz
              have HP2 : Hid (out = acc) := by unfold Hid; rw [HP.out, if_pos HQ.out]
              have hs : (z.toList == z.toList) = true := by simp
              go_wp2_with fail
              exact ⟨⟨k + 1, _, by omega, by go_num, rfl, HEi.out, by rw [HP1.out, HP2.out]; exact HR.out.ext HE3.out⟩, by simp [intOf]; omega⟩
            · have hs : (z.toList == p.toList) = false := by rw [beq_toList]; simp [hz]
              obtain ⟨va, wa, vb, wb, vc, wc, ra, rb, rc, o2, ex, ea⟩ := app_three (P := Tryz.prog) str_elem (wr := wr) j (acc.length - j) ((acc.take j).map strC).flatten ((acc.drop j).map strC).flatten (strC p) (.slice (some ⟨b, o, none⟩) j c2) (.slice (if c2 = j then some ⟨b, o, none⟩ else some ⟨b, o + j * 1, none⟩) (acc.length - j) (c2 - j)) (by omega) (by omega) (by omega) rfl (str_coded.one p)
                (fun W hW => src_take Tryz.underlying38 str_coded HL.out j c2 (by omega) (HE3.out.trans hW)) (fun W hW => src_drop Tryz.underlying38 str_coded HL.out j c2 (by omega) g1 (HE3.out.trans hW))
              have HO := hid o2
              have HX := hid ex
              have hck : ¬ c2 = j := by omega
              have hout : out = acc.take j ++ p :: acc.drop j := by rw [HP.out, if_neg (by rw [HQ.out]; exact fun e => hz (Option.some.inj e))]
              have HLen : Hid (out.length = j + 1 + (acc.length - j)) := by unfold Hid; rw [hout]; simp; omega
              have HFl : Hid ((out.map strC).flatten = ((acc.take j).map strC).flatten ++ strC p ++ ((acc.drop j).map strC).flatten) := by unfold Hid; rw [hout]; simp
              rw [if_neg hck, Nat.mul_one] at rc
              unfold strC at rb
              clear o2 ex ea hout hz HQ HP HR HN HL
              go_wp2_with (first
                | (at_builtin; refine wpList_app rfl (.tmp 45) (.tmp 48) _ _ rfl rfl rfl ra ?_)
                | (at_builtin; refine wpList_app rfl (.tmp 50) (.tmp 52) _ _ rfl rfl rfl rb ?_)
                | (at_builtin; refine wpList_app rfl (.tmp 54) (.tmp 57) _ _ rfl rfl rfl rc ?_))
              all_goals exact ⟨⟨k + 1, _, by omega, by go_num, rfl, HEi.out.trans HX.out, by rw [HP1.out]; exact ⟨fun h0 => by rw [HLen.out] at h0; omega, by rw [HLen.out, HFl.out]; exact row_weak HO.out HEi.out.size⟩⟩, by simp [intOf]; omega⟩
          · have dj : ((j : Int) == acc.length) = true := by simp; omega
            have djl : decide (j < acc.length) = false := decide_eq_false hjl
            have HE3 := hid hEi
            by_cases h0 : acc.length = 0
            · have hnil := HN.out h0
              injection hnil with hA hn hc0
              subst hA hc0
              have hl0 : acc = [] := List.eq_nil_of_length_eq_zero h0
              subst hl0
              have hk0 : j = 0 := by omega
              subst hk0
              have hout : out = [p] := by rw [HP.out]; simp
              have HLen : Hid (out.length = 0 + 1 + 0) := by unfold Hid; rw [hout]; rfl
              have HFl : Hid ((out.map strC).flatten = [] ++ strC p ++ []) := by unfold Hid; rw [hout]; simp
              clear hout g3 hEi HN HP HR HLow HAt
              obtain ⟨va, wa, vb, wb, vc, wc, ra, rb, rc, o2, ex, ea⟩ := app_three (P := Tryz.prog) str_elem (wr := wr) 0 0 [] [] (strC p) (.slice none 0 0) (.slice none 0 0) (by omega) (by omega) (by omega) rfl (str_coded.one p)
                (fun W hW => Src.ofNil W Tryz.underlying38 0) (fun W hW => Src.ofNil W Tryz.underlying38 0)
              have HO := hid o2
              have HX := hid ex
              unfold strC at rb
              clear o2 ex ea
              go_wp2_with (first
                | (at_builtin; refine wpList_app rfl (.tmp 45) (.tmp 48) _ _ rfl rfl rfl ra ?_)
                | (at_builtin; refine wpList_app rfl (.tmp 50) (.tmp 52) _ _ rfl rfl rfl rb ?_)
                | (at_builtin; refine wpList_app rfl (.tmp 54) (.tmp 57) _ _ rfl rfl rfl rc ?_))
              all_goals exact ⟨⟨k + 1, _, by omega, by go_num, rfl, HEi.out.trans HX.out, by rw [HP1.out]; exact ⟨fun h0 => by rw [HLen.out] at h0; omega, by rw [HLen.out, HFl.out]; exact row_weak HO.out HEi.out.size⟩⟩, by simp [intOf]; omega⟩
            · obtain ⟨b, o, rfl, lb, hcell⟩ := g3 (by omega)
              have HL := hid hcell
              have hout : out = acc.take j ++ p :: acc.drop j := by rw [HP.out, if_neg (by rw [List.getElem?_eq_none (by omega)]; simp)]
              have HLen : Hid (out.length = j + 1 + (acc.length - j)) := by unfold Hid; rw [hout]; simp; omega
              have HFl : Hid ((out.map strC).flatten = ((acc.take j).map strC).flatten ++ strC p ++ ((acc.drop j).map strC).flatten) := by unfold Hid; rw [hout]; simp
              clear hcell g3 hEi HP HR hout HLow HAt HN
              obtain ⟨va, wa, vb, wb, vc, wc, ra, rb, rc, o2, ex, ea⟩ := app_three (P := Tryz.prog) str_elem (wr := wr) j (acc.length - j) ((acc.take j).map strC).flatten ((acc.drop j).map strC).flatten (strC p) (.slice (some ⟨b, o, none⟩) j c2) (.slice (if c2 = j then some ⟨b, o, none⟩ else some ⟨b, o + j * 1, none⟩) (acc.length - j) (c2 - j)) (by omega) (by omega) (by omega) rfl (str_coded.one p)
                (fun W hW => src_take Tryz.underlying38 str_coded HL.out j c2 (by omega) (HE3.out.trans hW)) (fun W hW => src_drop Tryz.underlying38 str_coded HL.out j c2 (by omega) g1 (HE3.out.trans hW))
              have HO := hid o2
              have HX := hid ex
              rw [Nat.mul_one] at rc
              unfold strC at rb
              clear o2 ex ea
              go_wp2_with (first
                | (at_builtin; refine wpList_app rfl (.tmp 45) (.tmp 48) _ _ rfl rfl rfl ra ?_)
                | (at_builtin; refine wpList_app rfl (.tmp 50) (.tmp 52) _ _ rfl rfl rfl rb ?_)
                | (at_builtin; refine wpList_app rfl (.tmp 54) (.tmp 57) _ _ rfl rfl rfl rc ?_))
              all_goals exact ⟨⟨k + 1, _, by omega, by go_num, rfl, HEi.out.trans HX.out, by rw [HP1.out]; exact ⟨fun h0 => by rw [HLen.out] at h0; omega, by rw [HLen.out, HFl.out]; exact row_weak HO.out HEi.out.size⟩⟩, by simp [intOf]; omega⟩
    · obtain rfl : k = l.length := by omega
      rw [List.take_length] at hR
      have HR := hid hR
      clear hE h3 hR
      go_wp2_with fail
      go_ret
      exact ⟨_, rfl, HR.out, HE.out⟩
theorem rprefixes_c (w : World) (v : Value) (l : List ClauseI) (h : Sl w 3 v (l.map ClauseI.cells)) (hl : l.length ≤ 5000) : Calls Tryz.prog 23 #[v] w (RetQ (RowAt strC 1 (preS l)) w) :=
  (rprefixes_f w v l h hl).mono fun e w' ⟨v', he, hr, hx⟩ => ⟨v', he, hr.row, hx⟩
end Go.Proofs.YtgkdiknmjgpgmaaGreatDoor
