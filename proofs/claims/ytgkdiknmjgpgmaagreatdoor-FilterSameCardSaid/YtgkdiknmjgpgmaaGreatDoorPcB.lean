/-
  Package path: letter, name (texts of ASCII), Names, Check, Meet.
-/
import Derived.Test.YtgkdiknmjgpgmaaGreatDoorPcA
import Derived.Test.YtgkdiknmjgpgmaaGreatDoorShelf
import Derived.Laws.RangeString
namespace Go.Proofs.YtgkdiknmjgpgmaaGreatDoor.Pa
open Go.RowKit

/-- a name may have that letter -/
def letterK (z : Int) : Bool := decide (97 ≤ z) && decide (z ≤ 122) || (decide (48 ≤ z) && decide (z ≤ 57)) || z == 46 || z == 45 || z == 95
set_option maxRecDepth 100000 in
set_option maxHeartbeats 1000000 in
theorem letter_c (z : Int) (w : World) : Calls Tryz.prog 95 #[.int .i32 z] w (fun e w' => e = .returned (.bool (letterK z)) ∧ w = w') := by
  go_enter Tryz.func95, Tryz.ntmps95
  go_wp2
  all_goals go_ret
  all_goals refine ⟨?_, rfl⟩
  all_goals (try simp_all [letterK])
  all_goals (try rw [show decide (97 ≤ z) = false by simp; omega])
  all_goals (try rw [show decide (48 ≤ z) = false by simp; omega])
  all_goals (try simp)

def lb (b : UInt8) : Bool := letterK b.toNat
/-- is a text a name? -/
def nameK (s : ByteArray) : Bool := !s.toList.isEmpty && decide (s.size ≤ 12) && s.toList.all lb && !(s.toList.all fun b => b == 46)
def Ascii (s : ByteArray) : Prop := ∀ i (h : i < s.size), (s[i]'h).toNat < 128
theorem take_succ_all (s : ByteArray) (k : Nat) (h : k < s.size) (p : UInt8 → Bool) : (s.toList.take (k + 1)).all p = ((s.toList.take k).all p && p s[k]) := by
  have hl : k < s.toList.length := by rw [size_toList]; exact h
  have e : s.toList[k] = s[k] := by
    have := get_toList s k h
    rw [List.getElem?_eq_getElem hl] at this
    injection this
  rw [List.take_succ_eq_append_getElem hl, List.all_append, e]; simp
theorem all_false_of {s : ByteArray} {k : Nat} (h : k < s.size) {p : UInt8 → Bool} (hp : p s[k] = false) : s.toList.all p = false := by
  have hg := get_toList s k h
  rw [List.all_eq_false]
  exact ⟨s[k], List.mem_of_getElem? hg, by rw [hp]; simp⟩
set_option maxRecDepth 100000 in
set_option maxHeartbeats 2000000 in
theorem name_c (s : ByteArray) (w : World) (ha : Ascii s) (hs : s.size ≤ 100000) : Calls Tryz.prog 78 #[.string s] w (Ret (.bool (nameK s)) w) := by
  have HK : Hid (nameK s = (!s.toList.isEmpty && decide (s.size ≤ 12) && s.toList.all lb && !(s.toList.all fun b => b == 46))) := rfl
  generalize nameK s = z at HK
  have HBrk : Hid (s.toList.all lb = false → z = false) := fun h => by rw [HK.out, h]; simp
  cases he : s.toList.isEmpty with
  | true =>
    have HEnd : Hid (∀ dk, s.toList.all lb = true → (s.toList.all fun b => b == 46) = dk → z = (false && !dk)) := fun dk h1 h2 => by rw [HK.out, h1, h2, he]; simp
    clear HK
    go_enter Tryz.func78, Tryz.ntmps78
    go_wp2_with fail
    go_step3
    go_wp2_with fail
    go_step3
    go_wp2_with fail
    go_loopw [3, 4] (fun r d wr => ∃ k : Nat, k ≤ s.size ∧ wr = w.iter s k ∧ r = .bool false ∧ d = .bool ((s.toList.take k).all fun b => b == 46) ∧ (s.toList.take k).all lb = true) (fun _ _ wr => s.size - wr.iterPos w.heap.size)
    case atStart => exact ⟨0, by omega, rfl, rfl, rfl, rfl⟩
    case round =>
      obtain ⟨k, hk, rfl, rfl, rfl, hl⟩ := hrel
      by_cases hlt : k < s.size
      · have h128 := ha k hlt
        have hnx := fun ty => run_next_ascii (P := Tryz.prog) w s k ty hlt h128
        have HS1 := hid (take_succ_all s k hlt lb)
        have HS2 := hid (take_succ_all s k hlt fun b => b == 46)
        have hcast : Hid (((s[k]'hlt) == 46) = (((s[k]'hlt).toNat : Int) == 46)) := by
          unfold Hid
          rw [Bool.eq_iff_iff, beq_iff_eq, beq_iff_eq]
          constructor
          · intro h; rw [h]; rfl
          · intro h
            have h5 : (s[k]'hlt).toNat = 46 := by omega
            exact UInt8.toNat_inj.1 h5
        have HL := hid hl
        have HBad : Hid (lb (s[k]'hlt) = false → s.toList.all lb = false) := fun h => all_false_of hlt h
        clear hl
        cases hd : (s.toList.take k).all (fun b => b == 46) with
        | true =>
          rw [hd] at HS2
          clear hd
          cases hlb : letterK ((s[k]'hlt).toNat : Int) with
          | true =>
            go_wp2_with (go_at_call 95; refine (letter_c _ _).mono ?_; rintro e w' ⟨rfl, rfl⟩)
            exact ⟨⟨k + 1, by omega, rfl, rfl, by rw [HS2.out, hcast.out]; simp, by rw [HS1.out, HL.out]; exact hlb⟩, by simp [World.iterPos, World.iter_heap]; omega⟩
          | false =>
            obtain rfl := HBrk.out (HBad.out hlb)
            go_wp2_with (go_at_call 95; refine (letter_c _ _).mono ?_; rintro e w' ⟨rfl, rfl⟩)
            rw [Exit.noGoto_ret]
            go_ret
            exact ⟨rfl, Ext.alloc _ _⟩
        | false =>
          rw [hd] at HS2
          clear hd
          cases hlb : letterK ((s[k]'hlt).toNat : Int) with
          | true =>
            go_wp2_with (go_at_call 95; refine (letter_c _ _).mono ?_; rintro e w' ⟨rfl, rfl⟩)
            exact ⟨⟨k + 1, by omega, rfl, rfl, by rw [HS2.out]; simp, by rw [HS1.out, HL.out]; exact hlb⟩, by simp [World.iterPos, World.iter_heap]; omega⟩
          | false =>
            obtain rfl := HBrk.out (HBad.out hlb)
            go_wp2_with (go_at_call 95; refine (letter_c _ _).mono ?_; rintro e w' ⟨rfl, rfl⟩)
            rw [Exit.noGoto_ret]
            go_ret
            exact ⟨rfl, Ext.alloc _ _⟩
      · obtain rfl : k = s.size := by omega
        have hnx := fun ty => run_next_end (P := Tryz.prog) w s s.size ty (by omega)
        have htk : s.toList.take s.size = s.toList := List.take_of_length_le (by rw [size_toList]; omega)
        rw [htk] at hl ⊢
        cases hd : s.toList.all (fun b => b == 46) with
        | true =>
          obtain rfl := HEnd.out true hl hd
          clear hd hl
          go_wp2_with fail
          rw [Exit.noGoto_ret]
          go_ret
          exact ⟨rfl, Ext.alloc _ _⟩
        | false =>
          obtain rfl := HEnd.out false hl hd
          clear hd hl
          go_wp2_with fail
          rw [Exit.noGoto_ret]
          go_ret
          exact ⟨rfl, Ext.alloc _ _⟩
  | false =>
    by_cases h12 : s.size ≤ 12
    · have d12 : decide ((s.size : Int) ≤ 12) = true := by simp; omega
      have HEnd : Hid (∀ dk, s.toList.all lb = true → (s.toList.all fun b => b == 46) = dk → z = (true && !dk)) := fun dk h1 h2 => by rw [HK.out, h1, h2, he, decide_eq_true h12]; simp
      clear HK h12
      go_enter Tryz.func78, Tryz.ntmps78
      go_wp2_with fail
      go_step3
      go_wp2_with fail
      go_step3
      go_wp2_with fail
      go_loopw [3, 4] (fun r d wr => ∃ k : Nat, k ≤ s.size ∧ wr = w.iter s k ∧ r = .bool true ∧ d = .bool ((s.toList.take k).all fun b => b == 46) ∧ (s.toList.take k).all lb = true) (fun _ _ wr => s.size - wr.iterPos w.heap.size)
      case atStart => exact ⟨0, by omega, rfl, rfl, rfl, rfl⟩
      case round =>
        obtain ⟨k, hk, rfl, rfl, rfl, hl⟩ := hrel
        by_cases hlt : k < s.size
        · have h128 := ha k hlt
          have hnx := fun ty => run_next_ascii (P := Tryz.prog) w s k ty hlt h128
          have HS1 := hid (take_succ_all s k hlt lb)
          have HS2 := hid (take_succ_all s k hlt fun b => b == 46)
          have hcast : Hid (((s[k]'hlt) == 46) = (((s[k]'hlt).toNat : Int) == 46)) := by
            unfold Hid
            rw [Bool.eq_iff_iff, beq_iff_eq, beq_iff_eq]
            constructor
            · intro h; rw [h]; rfl
            · intro h
              have h5 : (s[k]'hlt).toNat = 46 := by omega
              exact UInt8.toNat_inj.1 h5
          have HL := hid hl
          have HBad : Hid (lb (s[k]'hlt) = false → s.toList.all lb = false) := fun h => all_false_of hlt h
          clear hl
          cases hd : (s.toList.take k).all (fun b => b == 46) with
          | true =>
            rw [hd] at HS2
            clear hd
            cases hlb : letterK ((s[k]'hlt).toNat : Int) with
            | true =>
              go_wp2_with (go_at_call 95; refine (letter_c _ _).mono ?_; rintro e w' ⟨rfl, rfl⟩)
              exact ⟨⟨k + 1, by omega, rfl, rfl, by rw [HS2.out, hcast.out]; simp, by rw [HS1.out, HL.out]; exact hlb⟩, by simp [World.iterPos, World.iter_heap]; omega⟩
            | false =>
              obtain rfl := HBrk.out (HBad.out hlb)
              go_wp2_with (go_at_call 95; refine (letter_c _ _).mono ?_; rintro e w' ⟨rfl, rfl⟩)
              rw [Exit.noGoto_ret]
              go_ret
              exact ⟨rfl, Ext.alloc _ _⟩
          | false =>
            rw [hd] at HS2
            clear hd
            cases hlb : letterK ((s[k]'hlt).toNat : Int) with
            | true =>
              go_wp2_with (go_at_call 95; refine (letter_c _ _).mono ?_; rintro e w' ⟨rfl, rfl⟩)
              exact ⟨⟨k + 1, by omega, rfl, rfl, by rw [HS2.out]; simp, by rw [HS1.out, HL.out]; exact hlb⟩, by simp [World.iterPos, World.iter_heap]; omega⟩
            | false =>
              obtain rfl := HBrk.out (HBad.out hlb)
              go_wp2_with (go_at_call 95; refine (letter_c _ _).mono ?_; rintro e w' ⟨rfl, rfl⟩)
              rw [Exit.noGoto_ret]
              go_ret
              exact ⟨rfl, Ext.alloc _ _⟩
        · obtain rfl : k = s.size := by omega
          have hnx := fun ty => run_next_end (P := Tryz.prog) w s s.size ty (by omega)
          have htk : s.toList.take s.size = s.toList := List.take_of_length_le (by rw [size_toList]; omega)
          rw [htk] at hl ⊢
          cases hd : s.toList.all (fun b => b == 46) with
          | true =>
            obtain rfl := HEnd.out true hl hd
            clear hd hl
            go_wp2_with fail
            rw [Exit.noGoto_ret]
            go_ret
            exact ⟨rfl, Ext.alloc _ _⟩
          | false =>
            obtain rfl := HEnd.out false hl hd
            clear hd hl
            go_wp2_with fail
            rw [Exit.noGoto_ret]
            go_ret
            exact ⟨rfl, Ext.alloc _ _⟩
    · have d12 : decide ((s.size : Int) ≤ 12) = false := by simp; omega
      have HEnd : Hid (∀ dk, s.toList.all lb = true → (s.toList.all fun b => b == 46) = dk → z = (false && !dk)) := fun dk h1 h2 => by rw [HK.out, h1, h2, he, decide_eq_false h12]; simp
      clear HK h12
      go_enter Tryz.func78, Tryz.ntmps78
      go_wp2_with fail
      go_step3
      go_wp2_with fail
      go_step3
      go_wp2_with fail
      go_loopw [3, 4] (fun r d wr => ∃ k : Nat, k ≤ s.size ∧ wr = w.iter s k ∧ r = .bool false ∧ d = .bool ((s.toList.take k).all fun b => b == 46) ∧ (s.toList.take k).all lb = true) (fun _ _ wr => s.size - wr.iterPos w.heap.size)
      case atStart => exact ⟨0, by omega, rfl, rfl, rfl, rfl⟩
      case round =>
        obtain ⟨k, hk, rfl, rfl, rfl, hl⟩ := hrel
        by_cases hlt : k < s.size
        · have h128 := ha k hlt
          have hnx := fun ty => run_next_ascii (P := Tryz.prog) w s k ty hlt h128
          have HS1 := hid (take_succ_all s k hlt lb)
          have HS2 := hid (take_succ_all s k hlt fun b => b == 46)
          have hcast : Hid (((s[k]'hlt) == 46) = (((s[k]'hlt).toNat : Int) == 46)) := by
            unfold Hid
            rw [Bool.eq_iff_iff, beq_iff_eq, beq_iff_eq]
            constructor
            · intro h; rw [h]; rfl
            · intro h
              have h5 : (s[k]'hlt).toNat = 46 := by omega
              exact UInt8.toNat_inj.1 h5
          have HL := hid hl
          have HBad : Hid (lb (s[k]'hlt) = false → s.toList.all lb = false) := fun h => all_false_of hlt h
          clear hl
          cases hd : (s.toList.take k).all (fun b => b == 46) with
          | true =>
            rw [hd] at HS2
            clear hd
            cases hlb : letterK ((s[k]'hlt).toNat : Int) with
            | true =>
              go_wp2_with (go_at_call 95; refine (letter_c _ _).mono ?_; rintro e w' ⟨rfl, rfl⟩)
              exact ⟨⟨k + 1, by omega, rfl, rfl, by rw [HS2.out, hcast.out]; simp, by rw [HS1.out, HL.out]; exact hlb⟩, by simp [World.iterPos, World.iter_heap]; omega⟩
            | false =>
              obtain rfl := HBrk.out (HBad.out hlb)
              go_wp2_with (go_at_call 95; refine (letter_c _ _).mono ?_; rintro e w' ⟨rfl, rfl⟩)
              rw [Exit.noGoto_ret]
              go_ret
              exact ⟨rfl, Ext.alloc _ _⟩
          | false =>
            rw [hd] at HS2
            clear hd
            cases hlb : letterK ((s[k]'hlt).toNat : Int) with
            | true =>
              go_wp2_with (go_at_call 95; refine (letter_c _ _).mono ?_; rintro e w' ⟨rfl, rfl⟩)
              exact ⟨⟨k + 1, by omega, rfl, rfl, by rw [HS2.out]; simp, by rw [HS1.out, HL.out]; exact hlb⟩, by simp [World.iterPos, World.iter_heap]; omega⟩
            | false =>
              obtain rfl := HBrk.out (HBad.out hlb)
              go_wp2_with (go_at_call 95; refine (letter_c _ _).mono ?_; rintro e w' ⟨rfl, rfl⟩)
              rw [Exit.noGoto_ret]
              go_ret
              exact ⟨rfl, Ext.alloc _ _⟩
        · obtain rfl : k = s.size := by omega
          have hnx := fun ty => run_next_end (P := Tryz.prog) w s s.size ty (by omega)
          have htk : s.toList.take s.size = s.toList := List.take_of_length_le (by rw [size_toList]; omega)
          rw [htk] at hl ⊢
          cases hd : s.toList.all (fun b => b == 46) with
          | true =>
            obtain rfl := HEnd.out true hl hd
            clear hd hl
            go_wp2_with fail
            rw [Exit.noGoto_ret]
            go_ret
            exact ⟨rfl, Ext.alloc _ _⟩
          | false =>
            obtain rfl := HEnd.out false hl hd
            clear hd hl
            go_wp2_with fail
            rw [Exit.noGoto_ret]
            go_ret
            exact ⟨rfl, Ext.alloc _ _⟩
end Go.Proofs.YtgkdiknmjgpgmaaGreatDoor.Pa
