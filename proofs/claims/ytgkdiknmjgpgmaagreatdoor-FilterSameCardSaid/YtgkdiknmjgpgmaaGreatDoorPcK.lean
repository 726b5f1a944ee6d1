/-
  Package path: name at every text; the document's Name.
-/
import Derived.Test.YtgkdiknmjgpgmaaGreatDoorPcC
import Derived.Test.YtgkdiknmjgpgmaaGreatDoorPcJ
import Derived.Lib.BufferKept
import Derived.Lib.SpaceUEq
namespace Go.Proofs.YtgkdiknmjgpgmaaGreatDoor.Pa
open Go.RowKit

theorem decode_big (s : ByteArray) (k : Nat) (h : k < s.size) (hb : ¬ (s[k]'h).toNat < 128) : 128 ≤ (Utf8.decode s k).1 := by
  have e : s.get! k = s[k]'h := by
    simp [ByteArray.get!, getElem!_pos, h]
    rfl
  rw [Lib.decode_at, e]
  rcases Lib.decodeN_cases (s.size - k) (s[k]'h).toNat (s.get! (k + 1)).toNat (s.get! (k + 2)).toNat (s.get! (k + 3)).toNat with ⟨c, _⟩ | ⟨_, _, _, c, e⟩ | ⟨_, _, _, _, c, e⟩ | ⟨c, _⟩ | e
  · exact absurd c hb
  · rw [e]; exact c
  · rw [e]; dsimp only; omega
  · omega
  · rw [e]; dsimp only; omega
theorem letterK_big {z : Int} (h : 128 ≤ z) : letterK z = false := by
  unfold letterK
  rw [show decide (z ≤ 122) = false by simp; omega, show decide (z ≤ 57) = false by simp; omega, show (z == 46) = false by simp; omega, show (z == 45) = false by simp; omega, show (z == 95) = false by simp; omega]
  simp
theorem lb_big {b : UInt8} (h : ¬ b.toNat < 128) : lb b = false := letterK_big (by omega)
set_option maxRecDepth 100000 in
set_option maxHeartbeats 2000000 in
theorem name_any (s : ByteArray) (w : World) (hs : s.size ≤ 100000) : Calls Tryz.prog 78 #[.string s] w (Ret (.bool (nameK s)) w) := by
  have HK : Hid (nameK s = (!s.toList.isEmpty && decide (s.size ≤ 12) && s.toList.all lb && !(s.toList.all fun b => b == 46))) := rfl
  generalize nameK s = z at HK
  have HBrk : Hid (s.toList.all lb = false → z = false) := fun h => by rw [HK.out, h]; simp
  cases he : s.toList.isEmpty with
  | true =>
    have HEnd : Hid (∀ dk, s.toList.all lb = true → (s.toList.all fun b => b == 46) = dk → z = (false && !dk)) := fun dk h1 h2 => by rw [HK.out, h1, h2, he]; simp
    clear HK
    go_enter Tryz.func78, Tryz.ntmps78
    go_wp2_with fail
    go_step3
    go_wp2_with fail
    go_step3
    go_wp2_with fail
    go_loopw [3, 4] (fun r d wr => ∃ k : Nat, k ≤ s.size ∧ wr = w.iter s k ∧ r = .bool false ∧ d = .bool ((s.toList.take k).all fun b => b == 46) ∧ (s.toList.take k).all lb = true) (fun _ _ wr => s.size - wr.iterPos w.heap.size)
    case atStart => exact ⟨0, by omega, rfl, rfl, rfl, rfl⟩
    case round =>
      obtain ⟨k, hk, rfl, rfl, rfl, hl⟩ := hrel
      by_cases hlt : k < s.size
      · have HBad : Hid (lb (s[k]'hlt) = false → s.toList.all lb = false) := fun h => all_false_of hlt h
        by_cases h128 : (s[k]'hlt).toNat < 128
        · have hnx := fun ty => run_next_ascii (P := Tryz.prog) w s k ty hlt h128
          have HS1 := hid (take_succ_all s k hlt lb)
          have HS2 := hid (take_succ_all s k hlt fun b => b == 46)
          have hcast : Hid (((s[k]'hlt) == 46) = (((s[k]'hlt).toNat : Int) == 46)) := by
            unfold Hid
            rw [Bool.eq_iff_iff, beq_iff_eq, beq_iff_eq]
            constructor
            · intro h; rw [h]; rfl
            · intro h
              have h5 : (s[k]'hlt).toNat = 46 := by omega
              exact UInt8.toNat_inj.1 h5
          have HL := hid hl
          clear hl
          cases hd : (s.toList.take k).all (fun b => b == 46) with
          | true =>
            rw [hd] at HS2
            clear hd
            cases hlb : letterK ((s[k]'hlt).toNat : Int) with
            | true =>
              go_wp2_with (go_at_call 95; refine (letter_c _ _).mono ?_; rintro e w' ⟨rfl, rfl⟩)
              exact ⟨⟨k + 1, by omega, rfl, rfl, by rw [HS2.out, hcast.out]; simp, by rw [HS1.out, HL.out]; exact hlb⟩, by simp [World.iterPos, World.iter_heap]; omega⟩
            | false =>
              obtain rfl := HBrk.out (HBad.out hlb)
              go_wp2_with (go_at_call 95; refine (letter_c _ _).mono ?_; rintro e w' ⟨rfl, rfl⟩)
              rw [Exit.noGoto_ret]
              go_ret
              exact ⟨rfl, Ext.alloc _ _⟩
          | false =>
            rw [hd] at HS2
            clear hd
            cases hlb : letterK ((s[k]'hlt).toNat : Int) with
            | true =>
              go_wp2_with (go_at_call 95; refine (letter_c _ _).mono ?_; rintro e w' ⟨rfl, rfl⟩)
              exact ⟨⟨k + 1, by omega, rfl, rfl, by rw [HS2.out]; simp, by rw [HS1.out, HL.out]; exact hlb⟩, by simp [World.iterPos, World.iter_heap]; omega⟩
            | false =>
              obtain rfl := HBrk.out (HBad.out hlb)
              go_wp2_with (go_at_call 95; refine (letter_c _ _).mono ?_; rintro e w' ⟨rfl, rfl⟩)
              rw [Exit.noGoto_ret]
              go_ret
              exact ⟨rfl, Ext.alloc _ _⟩
        · obtain rfl := HBrk.out (HBad.out (lb_big h128))
          obtain ⟨z, d, hzl, hnz⟩ : ∃ (z : Int) (d : Nat), letterK z = false ∧ ∀ ty, (Instr.next (.pointer (some ⟨w.heap.size, 0, none⟩)) true ty).run Tryz.prog (w.iter s k) = .ok (.tuple #[.bool true, .int .i64 k, .int .i32 z]) (w.iter s d) := by
            refine ⟨((Utf8.decode s k).1 : Int), k + (Utf8.decode s k).2, letterK_big (by have := decode_big s k hlt h128; omega), fun ty => ?_⟩
            rw [Lib.run_next_any_at (P := Tryz.prog) (w.iter s k) w.heap.size s k ty (World.iter_heap w s k) hlt]
            congr 1
            exact World.iter_set w s k _
          clear h128 HBad hl
          generalize (s.toList.take k).all (fun b => b == 46) = dd
          go_wp2_with (go_at_call 95; refine (letter_c _ _).mono ?_; rintro e w' ⟨rfl, rfl⟩)
          rw [Exit.noGoto_ret]
          go_ret
          exact ⟨rfl, Ext.alloc _ _⟩
      · obtain rfl : k = s.size := by omega
        have hnx := fun ty => run_next_end (P := Tryz.prog) w s s.size ty (by omega)
        have htk : s.toList.take s.size = s.toList := List.take_of_length_le (by rw [size_toList]; omega)
        rw [htk] at hl ⊢
        cases hd : s.toList.all (fun b => b == 46) with
        | true =>
          obtain rfl := HEnd.out true hl hd
          clear hd hl
          go_wp2_with fail
          rw [Exit.noGoto_ret]
          go_ret
          exact ⟨rfl, Ext.alloc _ _⟩
        | false =>
          obtain rfl := HEnd.out false hl hd
          clear hd hl
          go_wp2_with fail
          rw [Exit.noGoto_ret]
          go_ret
          exact ⟨rfl, Ext.alloc _ _⟩
  | false =>
    by_cases h12 : s.size ≤ 12
    · have d12 : decide ((s.size : Int) ≤ 12) = true := by simp; omega
      have HEnd : Hid (∀ dk, s.toList.all lb = true → (s.toList.all fun b => b == 46) = dk → z = (true && !dk)) := fun dk h1 h2 => by rw [HK.out, h1, h2, he, decide_eq_true h12]; simp
      clear HK h12
      go_enter Tryz.func78, Tryz.ntmps78
      go_wp2_with fail
      go_step3
      go_wp2_with fail
      go_step3
      go_wp2_with fail
      go_loopw [3, 4] (fun r d wr => ∃ k : Nat, k ≤ s.size ∧ wr = w.iter s k ∧ r = .bool true ∧ d = .bool ((s.toList.take k).all fun b => b == 46) ∧ (s.toList.take k).all lb = true) (fun _ _ wr => s.size - wr.iterPos w.heap.size)
      case atStart => exact ⟨0, by omega, rfl, rfl, rfl, rfl⟩
      case round =>
        obtain ⟨k, hk, rfl, rfl, rfl, hl⟩ := hrel
        by_cases hlt : k < s.size
        · have HBad : Hid (lb (s[k]'hlt) = false → s.toList.all lb = false) := fun h => all_false_of hlt h
          by_cases h128 : (s[k]'hlt).toNat < 128
          · have hnx := fun ty => run_next_ascii (P := Tryz.prog) w s k ty hlt h128
            have HS1 := hid (take_succ_all s k hlt lb)
            have HS2 := hid (take_succ_all s k hlt fun b => b == 46)
            have hcast : Hid (((s[k]'hlt) == 46) = (((s[k]'hlt).toNat : Int) == 46)) := by
              unfold Hid
              rw [Bool.eq_iff_iff, beq_iff_eq, beq_iff_eq]
              constructor
              · intro h; rw [h]; rfl
              · intro h
                have h5 : (s[k]'hlt).toNat = 46 := by omega
                exact UInt8.toNat_inj.1 h5
            have HL := hid hl
            clear hl
            cases hd : (s.toList.take k).all (fun b => b == 46) with
            | true =>
              rw [hd] at HS2
              clear hd
              cases hlb : letterK ((s[k]'hlt).toNat : Int) with
              | true =>
                go_wp2_with (go_at_call 95; refine (letter_c _ _).mono ?_; rintro e w' ⟨rfl, rfl⟩)
                exact ⟨⟨k + 1, by omega, rfl, rfl, by rw [HS2.out, hcast.out]; simp, by rw [HS1.out, HL.out]; exact hlb⟩, by simp [World.iterPos, World.iter_heap]; omega⟩
              | false =>
                obtain rfl := HBrk.out (HBad.out hlb)
                go_wp2_with (go_at_call 95; refine (letter_c _ _).mono ?_; rintro e w' ⟨rfl, rfl⟩)
                rw [Exit.noGoto_ret]
                go_ret
                exact ⟨rfl, Ext.alloc _ _⟩
            | false =>
              rw [hd] at HS2
              clear hd
              cases hlb : letterK ((s[k]'hlt).toNat : Int) with
              | true =>
                go_wp2_with (go_at_call 95; refine (letter_c _ _).mono ?_; rintro e w' ⟨rfl, rfl⟩)
                exact ⟨⟨k + 1, by omega, rfl, rfl, by rw [HS2.out]; simp, by rw [HS1.out, HL.out]; exact hlb⟩, by simp [World.iterPos, World.iter_heap]; omega⟩
              | false =>
                obtain rfl := HBrk.out (HBad.out hlb)
                go_wp2_with (go_at_call 95; refine (letter_c _ _).mono ?_; rintro e w' ⟨rfl, rfl⟩)
                rw [Exit.noGoto_ret]
                go_ret
                exact ⟨rfl, Ext.alloc _ _⟩
          · obtain rfl := HBrk.out (HBad.out (lb_big h128))
            obtain ⟨z, d, hzl, hnz⟩ : ∃ (z : Int) (d : Nat), letterK z = false ∧ ∀ ty, (Instr.next (.pointer (some ⟨w.heap.size, 0, none⟩)) true ty).run Tryz.prog (w.iter s k) = .ok (.tuple #[.bool true, .int .i64 k, .int .i32 z]) (w.iter s d) := by
              refine ⟨((Utf8.decode s k).1 : Int), k + (Utf8.decode s k).2, letterK_big (by have := decode_big s k hlt h128; omega), fun ty => ?_⟩
              rw [Lib.run_next_any_at (P := Tryz.prog) (w.iter s k) w.heap.size s k ty (World.iter_heap w s k) hlt]
              congr 1
              exact World.iter_set w s k _
            clear h128 HBad hl
            generalize (s.toList.take k).all (fun b => b == 46) = dd
            go_wp2_with (go_at_call 95; refine (letter_c _ _).mono ?_; rintro e w' ⟨rfl, rfl⟩)
            rw [Exit.noGoto_ret]
            go_ret
            exact ⟨rfl, Ext.alloc _ _⟩
        · obtain rfl : k = s.size := by omega
          have hnx := fun ty => run_next_end (P := Tryz.prog) w s s.size ty (by omega)
          have htk : s.toList.take s.size = s.toList := List.take_of_length_le (by rw [size_toList]; omega)
          rw [htk] at hl ⊢
          cases hd : s.toList.all (fun b => b == 46) with
          | true =>
            obtain rfl := HEnd.out true hl hd
            clear hd hl
            go_wp2_with fail
            rw [Exit.noGoto_ret]
            go_ret
            exact ⟨rfl, Ext.alloc _ _⟩
          | false =>
            obtain rfl := HEnd.out false hl hd
            clear hd hl
            go_wp2_with fail
            rw [Exit.noGoto_ret]
            go_ret
            exact ⟨rfl, Ext.alloc _ _⟩
    · have d12 : decide ((s.size : Int) ≤ 12) = false := by simp; omega
      have HEnd : Hid (∀ dk, s.toList.all lb = true → (s.toList.all fun b => b == 46) = dk → z = (false && !dk)) := fun dk h1 h2 => by rw [HK.out, h1, h2, he, decide_eq_false h12]; simp
      clear HK h12
      go_enter Tryz.func78, Tryz.ntmps78
      go_wp2_with fail
      go_step3
      go_wp2_with fail
      go_step3
      go_wp2_with fail
      go_loopw [3, 4] (fun r d wr => ∃ k : Nat, k ≤ s.size ∧ wr = w.iter s k ∧ r = .bool false ∧ d = .bool ((s.toList.take k).all fun b => b == 46) ∧ (s.toList.take k).all lb = true) (fun _ _ wr => s.size - wr.iterPos w.heap.size)
      case atStart => exact ⟨0, by omega, rfl, rfl, rfl, rfl⟩
      case round =>
        obtain ⟨k, hk, rfl, rfl, rfl, hl⟩ := hrel
        by_cases hlt : k < s.size
        · have HBad : Hid (lb (s[k]'hlt) = false → s.toList.all lb = false) := fun h => all_false_of hlt h
          by_cases h128 : (s[k]'hlt).toNat < 128
          · have hnx := fun ty => run_next_ascii (P := Tryz.prog) w s k ty hlt h128
            have HS1 := hid (take_succ_all s k hlt lb)
            have HS2 := hid (take_succ_all s k hlt fun b => b == 46)
            have hcast : Hid (((s[k]'hlt) == 46) = (((s[k]'hlt).toNat : Int) == 46)) := by
              unfold Hid
              rw [Bool.eq_iff_iff, beq_iff_eq, beq_iff_eq]
              constructor
              · intro h; rw [h]; rfl
              · intro h
                have h5 : (s[k]'hlt).toNat = 46 := by omega
                exact UInt8.toNat_inj.1 h5
            have HL := hid hl
            clear hl
            cases hd : (s.toList.take k).all (fun b => b == 46) with
            | true =>
              rw [hd] at HS2
              clear hd
              cases hlb : letterK ((s[k]'hlt).toNat : Int) with
              | true =>
                go_wp2_with (go_at_call 95; refine (letter_c _ _).mono ?_; rintro e w' ⟨rfl, rfl⟩)
                exact ⟨⟨k + 1, by omega, rfl, rfl, by rw [HS2.out, hcast.out]; simp, by rw [HS1.out, HL.out]; exact hlb⟩, by simp [World.iterPos, World.iter_heap]; omega⟩
              | false =>
                obtain rfl := HBrk.out (HBad.out hlb)
                go_wp2_with (go_at_call 95; refine (letter_c _ _).mono ?_; rintro e w' ⟨rfl, rfl⟩)
                rw [Exit.noGoto_ret]
                go_ret
                exact ⟨rfl, Ext.alloc _ _⟩
            | false =>
              rw [hd] at HS2
              clear hd
              cases hlb : letterK ((s[k]'hlt).toNat : Int) with
              | true =>
                go_wp2_with (go_at_call 95; refine (letter_c _ _).mono ?_; rintro e w' ⟨rfl, rfl⟩)
                exact ⟨⟨k + 1, by omega, rfl, rfl, by rw [HS2.out]; simp, by rw [HS1.out, HL.out]; exact hlb⟩, by simp [World.iterPos, World.iter_heap]; omega⟩
              | false =>
                obtain rfl := HBrk.out (HBad.out hlb)
                go_wp2_with (go_at_call 95; refine (letter_c _ _).mono ?_; rintro e w' ⟨rfl, rfl⟩)
                rw [Exit.noGoto_ret]
                go_ret
                exact ⟨rfl, Ext.alloc _ _⟩
          · obtain rfl := HBrk.out (HBad.out (lb_big h128))
            obtain ⟨z, d, hzl, hnz⟩ : ∃ (z : Int) (d : Nat), letterK z = false ∧ ∀ ty, (Instr.next (.pointer (some ⟨w.heap.size, 0, none⟩)) true ty).run Tryz.prog (w.iter s k) = .ok (.tuple #[.bool true, .int .i64 k, .int .i32 z]) (w.iter s d) := by
              refine ⟨((Utf8.decode s k).1 : Int), k + (Utf8.decode s k).2, letterK_big (by have := decode_big s k hlt h128; omega), fun ty => ?_⟩
              rw [Lib.run_next_any_at (P := Tryz.prog) (w.iter s k) w.heap.size s k ty (World.iter_heap w s k) hlt]
              congr 1
              exact World.iter_set w s k _
            clear h128 HBad hl
            generalize (s.toList.take k).all (fun b => b == 46) = dd
            go_wp2_with (go_at_call 95; refine (letter_c _ _).mono ?_; rintro e w' ⟨rfl, rfl⟩)
            rw [Exit.noGoto_ret]
            go_ret
            exact ⟨rfl, Ext.alloc _ _⟩
        · obtain rfl : k = s.size := by omega
          have hnx := fun ty => run_next_end (P := Tryz.prog) w s s.size ty (by omega)
          have htk : s.toList.take s.size = s.toList := List.take_of_length_le (by rw [size_toList]; omega)
          rw [htk] at hl ⊢
          cases hd : s.toList.all (fun b => b == 46) with
          | true =>
            obtain rfl := HEnd.out true hl hd
            clear hd hl
            go_wp2_with fail
            rw [Exit.noGoto_ret]
            go_ret
            exact ⟨rfl, Ext.alloc _ _⟩
          | false =>
            obtain rfl := HEnd.out false hl hd
            clear hd hl
            go_wp2_with fail
            rw [Exit.noGoto_ret]
            go_ret
            exact ⟨rfl, Ext.alloc _ _⟩

/-- how many dots there are ahead of k -/
def dotsK (s : ByteArray) (k : Nat) : Nat := (s.toList.take k).countP fun b => b == 46
theorem dotsK_succ (s : ByteArray) (k : Nat) (h : k < s.size) : dotsK s (k + 1) = dotsK s k + (if s[k] = 46 then 1 else 0) := by
  have hl : k < s.toList.length := by rw [size_toList]; exact h
  have e : s.toList[k] = s[k] := by
    have := get_toList s k h
    rw [List.getElem?_eq_getElem hl] at this
    injection this
  unfold dotsK
  rw [List.take_succ_eq_append_getElem hl, List.countP_append, e]
  simp [List.countP_cons]
theorem dotsK_all (s : ByteArray) : (decide ((dotsK s s.size : Int) < (s.size : Int))) = !(s.toList.all fun b => b == 46) := by
  have e : dotsK s s.size = s.toList.countP fun b => b == 46 := by
    unfold dotsK
    rw [List.take_of_length_le (by rw [size_toList]; omega)]
  have h1 := List.countP_le_length (p := fun b : UInt8 => b == 46) (l := s.toList)
  have h2 := List.countP_eq_length (p := fun b : UInt8 => b == 46) (l := s.toList)
  rw [← e, size_toList] at h1 h2
  cases ha : s.toList.all fun b => b == 46 with
  | true =>
    have := h2.2 (by simpa using ha)
    rw [this]; simp
  | false =>
    have : dotsK s s.size ≠ s.size := fun h => by
      have h3 := List.all_eq_true.2 (h2.1 h)
      rw [ha] at h3
      cases h3
    simp; omega
theorem lk_iff (z : Int) : letterK z = true ↔ (97 ≤ z ∧ z ≤ 122) ∨ (48 ≤ z ∧ z ≤ 57) ∨ z = 46 ∨ z = 45 ∨ z = 95 := by
  unfold letterK
  simp only [Bool.or_eq_true, Bool.and_eq_true, decide_eq_true_eq, beq_iff_eq]
  omega
theorem lk_yes {z : Int} (h : (97 ≤ z ∧ z ≤ 122) ∨ (48 ≤ z ∧ z ≤ 57) ∨ z = 46 ∨ z = 45 ∨ z = 95) : letterK z = true := (lk_iff z).2 h
theorem lk_no {z : Int} (h : ¬ ((97 ≤ z ∧ z ≤ 122) ∨ (48 ≤ z ∧ z ≤ 57) ∨ z = 46 ∨ z = 45 ∨ z = 95)) : letterK z = false := by
  cases hh : letterK z with
  | false => rfl
  | true => exact absurd ((lk_iff z).1 hh) h
set_option maxRecDepth 100000 in
set_option maxHeartbeats 2000000 in
theorem rname_c (s : ByteArray) (w : World) (hs : s.size ≤ 100000) : Calls Tryz.prog 49 #[.string s] w (fun e w' => e = .returned (.bool (nameK s)) ∧ w = w') := by
  have HK : Hid (nameK s = (!s.toList.isEmpty && decide (s.size ≤ 12) && s.toList.all lb && !(s.toList.all fun b => b == 46))) := rfl
  generalize nameK s = z at HK
  have HBrk : Hid (s.toList.all lb = false → z = false) := fun h => by rw [HK.out, h]; simp
  go_enter Tryz.func49, Tryz.ntmps49
  go_wp2_with fail
  go_loopw [3, 4] (fun d i wr => ∃ k : Nat, k ≤ s.size ∧ wr = w ∧ i = .int .i64 k ∧ d = .int .i64 (dotsK s k) ∧ (s.toList.take k).all lb = true) (fun _ i _ => s.size - (intOf i).toNat)
  case atStart => exact ⟨0, by omega, rfl, rfl, rfl, rfl⟩
  case round =>
    obtain ⟨k, hk, rfl, rfl, rfl, hl⟩ := hrel
    have hdk : dotsK s k ≤ k := Nat.le_trans List.countP_le_length (List.length_take_le _ _)
    by_cases hlt : k < s.size
    · have HBad : Hid (lb (s[k]'hlt) = false → s.toList.all lb = false) := fun h => all_false_of hlt h
      have HS1 := hid (take_succ_all s k hlt lb)
      have HS2 := hid (dotsK_succ s k hlt)
      have HL := hid hl
      clear hl
      by_cases h46 : s[k] = 46
      · have hb : ((s[k].toNat : Int) == 46) = true := by rw [h46]; rfl
        have HD : Hid (dotsK s (k + 1) = dotsK s k + 1) := by
          unfold Hid; rw [HS2.out, if_pos h46]
        have HA : Hid ((s.toList.take (k + 1)).all lb = true) := by
          unfold Hid; rw [HS1.out, HL.out, h46]; rfl
        clear h46 HS1 HS2
        go_wp2_with fail
        go_roundw
        case rel => exact ⟨k + 1, by omega, trivial, by go_num, by rw [HD.out]; go_num, HA.out⟩
        case measure => simp [intOf]; omega
      · have hb : ((s[k].toNat : Int) == 46) = false := by
          simp only [beq_eq_false_iff_ne, ne_eq]
          intro h
          exact h46 (UInt8.toNat_inj.1 (show s[k].toNat = (46 : UInt8).toNat by have : (46 : UInt8).toNat = 46 := rfl; omega))
        have HD : Hid (dotsK s (k + 1) = dotsK s k) := by
          unfold Hid; rw [HS2.out, if_neg h46]; omega
        have HA : Hid ((s.toList.take (k + 1)).all lb = letterK (s[k].toNat : Int)) := by
          unfold Hid; rw [HS1.out, HL.out]; rfl
        have HB2 : Hid (letterK (s[k].toNat : Int) = false → z = false) := fun h => HBrk.out (HBad.out h)
        clear h46 HS1 HS2 HBad HBrk
        go_wp2_with fail
        all_goals first
          | (go_ret
             obtain rfl := HB2.out (lk_no (by simp_all <;> omega))
             exact ⟨rfl, rfl⟩)
          | (go_roundw
             case rel => exact ⟨k + 1, by omega, trivial, by go_num, by rw [HD.out], by rw [HA.out]; exact lk_yes (by simp_all <;> omega)⟩
             case measure => simp [intOf]; omega)
    · obtain rfl : k = s.size := by omega
      rw [List.take_of_length_le (by rw [size_toList]; omega)] at hl
      have HD := hid (dotsK_all s)
      have he : (!s.toList.isEmpty) = decide (1 ≤ (s.size : Int)) := by
        rw [← size_toList]
        cases s.toList with
        | nil => rfl
        | cons _ _ => simp; omega
      have h12 : decide (s.size ≤ 12) = decide ((s.size : Int) ≤ 12) := decide_eq_decide.2 (by omega)
      have HZ : Hid (z = (decide (1 ≤ (s.size : Int)) && decide ((s.size : Int) ≤ 12) && decide ((dotsK s s.size : Int) < (s.size : Int)))) := by
        unfold Hid
        rw [HK.out, he, h12, hl, HD.out, Bool.and_true]
      clear hdk HBrk HK HD he h12 hl
      go_wp2_with fail
      all_goals go_ret
      all_goals refine ⟨?_, rfl⟩
      all_goals rw [HZ.out]
      · show Ending.returned (.bool (decide (dotsK s s.size < s.size))) = _
        rw [decide_eq_true (by assumption : 1 ≤ (s.size : Int)), decide_eq_true (by assumption : (s.size : Int) ≤ 12), Bool.true_and, Bool.true_and]
        congr 2
        exact decide_eq_decide.2 (by omega)
      · show Ending.returned (.bool false) = _
        rw [show decide ((s.size : Int) ≤ 12) = false by simp; omega]
        simp
      · show Ending.returned (.bool false) = _
        rw [show decide (1 ≤ (s.size : Int)) = false by simp; omega]
        simp
end Go.Proofs.YtgkdiknmjgpgmaaGreatDoor.Pa
