/-
  Texts in rows (out of XPaA).
  Package path: letter, name (texts of ASCII), Names, Check, Meet.
  Package path: Names, Check, Meet; awake.
  A text cut at its slashes, and joined again: plain laws.
  Package path: name at every text; the document's Name.
  The document's Split and Right.
  Package path: Names, Check, Join at every text.
-/
import Derived.Test.YtjbpdepeimgocaaCov
import Derived.Test.YtjbpdepeimgocaaShelf
import Derived.Laws.RangeString
import Derived.Lib.SplitLaws
import Derived.Lib.Join
import Derived.Lib.BufferKept
import Derived.Lib.SpaceUEq
import Derived.Deep.AppendLies
namespace Go.Proofs.Ytjbpdepeimgocaa.Pa
open Go.RowKit

theorem nil_toList : (⟨#[]⟩ : ByteArray).toList = [] := by rw [Lib.toList_data]
theorem extract_zero (s : ByteArray) : s.extract 0 0 = ⟨#[]⟩ := toList_inj (by rw [extract_toList, nil_toList]; rfl)
theorem empty_iff (s : ByteArray) : s.toList.isEmpty = true ↔ s = ⟨#[]⟩ := by
  constructor
  · intro h
    refine toList_inj ?_
    rw [nil_toList]
    simpa using h
  · rintro rfl; rw [nil_toList]; rfl
def Strs (l : List ByteArray) : List (List Value) := l.map fun s => [.string s]
theorem sl_str {w : World} {v : Value} {l : List ByteArray} (h : Sl w 1 v (Strs l)) : ∃ A c, v = .slice A l.length c ∧ l.length ≤ c ∧ c ≤ maxLen ∧ (0 < l.length → ∃ b o, A = some ⟨b, o, none⟩ ∧ b < w.heap.size ∧ ∀ k (h : k < l.length), w.cell? ⟨b, o + k, none⟩ = some (.string l[k])) := by
  obtain ⟨A, c, h1, h2, h3, h4⟩ := h
  simp only [Strs, List.length_map] at h1 h2 h4
  refine ⟨A, c, h1, h2, h3, fun hn => ?_⟩
  obtain ⟨b, o, h5, h6, h7⟩ := h4 hn
  refine ⟨b, o, h5, h6, fun k hk => ?_⟩
  have := h7 k [.string l[k]] 0 _ (by simp [hk]) rfl
  simpa using this
end Go.Proofs.Ytjbpdepeimgocaa.Pa
namespace Go.Proofs.Ytjbpdepeimgocaa.Pa
open Go.RowKit

/-- a name may have that letter -/
def letterK (z : Int) : Bool := decide (97 ≤ z) && decide (z ≤ 122) || (decide (48 ≤ z) && decide (z ≤ 57)) || z == 46 || z == 45 || z == 95
def lb (b : UInt8) : Bool := letterK b.toNat
/-- is a text a name? -/
def nameK (s : ByteArray) : Bool := !s.toList.isEmpty && decide (s.size ≤ 12) && s.toList.all lb && !(s.toList.all fun b => b == 46)
def Ascii (s : ByteArray) : Prop := ∀ i (h : i < s.size), (s[i]'h).toNat < 128
theorem take_succ_all (s : ByteArray) (k : Nat) (h : k < s.size) (p : UInt8 → Bool) : (s.toList.take (k + 1)).all p = ((s.toList.take k).all p && p s[k]) := by
  have hl : k < s.toList.length := by rw [size_toList]; exact h
  have e : s.toList[k] = s[k] := by
    have := get_toList s k h
    rw [List.getElem?_eq_getElem hl] at this
    injection this
  rw [List.take_succ_eq_append_getElem hl, List.all_append, e]; simp
theorem all_false_of {s : ByteArray} {k : Nat} (h : k < s.size) {p : UInt8 → Bool} (hp : p s[k] = false) : s.toList.all p = false := by
  have hg := get_toList s k h
  rw [List.all_eq_false]
  exact ⟨s[k], List.mem_of_getElem? hg, by rw [hp]; simp⟩
end Go.Proofs.Ytjbpdepeimgocaa.Pa
namespace Go.Proofs.Ytjbpdepeimgocaa.Pa
open Go.RowKit

theorem strs_flat (l : List ByteArray) : (Strs l).flatten = l.map Value.string := by
  induction l with
  | nil => rfl
  | cons x l ih =>
    have e : (Strs (x :: l)).flatten = .string x :: (Strs l).flatten := rfl
    rw [e, ih]; rfl
end Go.Proofs.Ytjbpdepeimgocaa.Pa
namespace Go.Proofs.Ytjbpdepeimgocaa.Pa
open Go.RowKit

/-- the parts between slashes -/
def sp : List UInt8 → List (List UInt8)
  | [] => [[]]
  | b :: t => if b = 47 then [] :: sp t else (b :: (sp t).headD []) :: (sp t).tail
theorem sp_ne (l : List UInt8) : sp l ≠ [] := by
  cases l with
  | nil => simp [sp]
  | cons b t => unfold sp; split <;> simp
theorem sp_head (l : List UInt8) : sp l = (sp l).headD [] :: (sp l).tail := by
  have := sp_ne l
  cases h : sp l with
  | nil => exact absurd h this
  | cons x r => rfl
theorem sp_app : ∀ (a t : List UInt8), (∀ x ∈ a, x ≠ 47) → sp (a ++ 47 :: t) = a :: sp t
  | [], t, _ => by simp [sp]
  | b :: a, t, h => by
    have hb := h b (by simp)
    have ih := sp_app a t fun x hx => h x (by simp [hx])
    show sp (b :: (a ++ 47 :: t)) = _
    rw [sp, if_neg hb, ih]
    rfl
theorem sp_none : ∀ (a : List UInt8), (∀ x ∈ a, x ≠ 47) → sp a = [a]
  | [], _ => rfl
  | b :: a, h => by
    have hb := h b (by simp)
    have ih := sp_none a fun x hx => h x (by simp [hx])
    rw [sp, if_neg hb, ih]
    rfl
theorem join_tail1 (y : List UInt8) (r : List (List UInt8)) : Lib.joinTail [47] (y :: r) = 47 :: Lib.join (y :: r) [47] := by
  rw [Lib.join_cons]
  simp [Lib.joinTail]
theorem join_sp (l : List UInt8) : Lib.join (sp l) [47] = l := by
  induction l with
  | nil => simp [sp, Lib.join_one]
  | cons b t ih =>
    by_cases hb : b = 47
    · rw [sp, if_pos hb, Lib.join_cons, sp_head t, join_tail1, ← sp_head t, ih, hb]
      rfl
    · rw [sp, if_neg hb, Lib.join_cons]
      rw [sp_head t, Lib.join_cons] at ih
      rw [List.cons_append, ih]
theorem sp_join : ∀ (l : List (List UInt8)), l ≠ [] → (∀ x ∈ l, ∀ b ∈ x, b ≠ 47) → sp (Lib.join l [47]) = l
  | [], h, _ => absurd rfl h
  | [x], _, h => by rw [Lib.join_one]; exact sp_none x (h x (by simp))
  | x :: y :: r, _, h => by
    rw [Lib.join_cons, join_tail1, sp_app x _ (h x (by simp)), sp_join (y :: r) (by simp) fun z hz => h z (by simp [hz])]
theorem splitK_cons (b : UInt8) (hb : b ≠ 47) (l : List UInt8) (k : Nat) : Lib.splitK [47] 0 k (b :: l) = (b :: (Lib.splitK [47] 0 k l).headD []) :: (Lib.splitK [47] 0 k l).tail := by
  cases k with
  | zero => rfl
  | succ k =>
    have hp : ([47] : List UInt8).isPrefixOf (b :: l) = false := by simp [List.isPrefixOf, Ne.symm hb]
    have hix : Lib.index (b :: l) [47] = if Lib.index l [47] == -1 then -1 else Lib.index l [47] + 1 := by rw [Lib.index, hp]; simp
    unfold Lib.splitK
    by_cases hm : Lib.index l [47] = -1
    · rw [hix, hm]; simp
    · have hge := Lib.index_ge l [47]
      have h1 : (Lib.index l [47] == -1) = false := by simpa using hm
      have h2 : (Lib.index l [47] + 1 == -1) = false := by simp; omega
      rw [hix, h1]
      simp only [Bool.false_eq_true, if_false, h2]
      have e : (Lib.index l [47] + 1).toNat = (Lib.index l [47]).toNat + 1 := by omega
      rw [e]
      simp [Nat.add_right_comm _ 1]
theorem split_sp (l : List UInt8) : Lib.split l [47] = sp l := by
  unfold Lib.split
  induction l with
  | nil => rfl
  | cons b t ih =>
    by_cases hb : b = 47
    · subst hb
      rw [Lib.count_cons_eq, sp, if_pos rfl, ← ih, Nat.add_comm 1]
      have hix : Lib.index (47 :: t) [47] = ((0 : Nat) : Int) := by rw [Lib.index]; simp [List.isPrefixOf]
      rw [Lib.splitK, hix]
      simp
    · rw [Lib.count_cons_ne b 47 t hb, splitK_cons b hb, sp, if_neg hb, ih]

def mk (l : List UInt8) : ByteArray := ⟨l.toArray⟩
theorem mk_toList (l : List UInt8) : (mk l).toList = l := by rw [Lib.toList_data]; rfl
theorem mk_of (s : ByteArray) : mk s.toList = s := toList_inj (mk_toList _)
/-- the parts of a text -/
def spB (s : ByteArray) : List ByteArray := (sp s.toList).map mk
theorem spB_lists (s : ByteArray) : (spB s).map ByteArray.toList = sp s.toList := by
  unfold spB
  rw [List.map_map]
  conv => rhs; rw [← List.map_id (sp s.toList)]
  congr 1
  funext l
  exact mk_toList l
theorem spB_eq {s : ByteArray} {l : List ByteArray} (h : l.map ByteArray.toList = sp s.toList) : l = spB s := by
  unfold spB
  rw [← h, List.map_map]
  conv => lhs; rw [← List.map_id l]
  congr 1
  funext x
  exact (mk_of x).symm
theorem splitB_spB (s : ByteArray) : Lib.splitB ⟨#[47]⟩ 0 (Lib.countB s ⟨#[47]⟩) s = spB s := by
  refine spB_eq ?_
  have h := Lib.splitB_data ⟨#[47]⟩ 0 (Lib.countB s ⟨#[47]⟩) s
  have h2 := split_sp s.data.toList
  have e : (ByteArray.toList : ByteArray → List UInt8) = fun x => x.data.toList := funext Lib.toList_data
  rw [e]
  exact h.trans h2
theorem countB_spB (s : ByteArray) : Lib.countB s ⟨#[47]⟩ + 1 = (spB s).length := by
  rw [← splitB_spB]
  exact (Lib.splitB_all ⟨#[47]⟩ (by show 1 ≤ 1; omega) 0 _ s rfl).symm
theorem sp_length (l : List UInt8) : (sp l).length ≤ l.length + 1 := by
  induction l with
  | nil => simp [sp]
  | cons b t ih =>
    unfold sp
    split
    · simp; exact ih
    · have := sp_ne t
      simp only [List.length_cons, List.length_tail]
      omega
theorem spB_length (s : ByteArray) : (spB s).length ≤ s.size + 1 := by
  unfold spB
  rw [List.length_map, ← size_toList]
  exact sp_length _
theorem sp_parts (l : List UInt8) : ∀ x ∈ sp l, x.length ≤ l.length := by
  induction l with
  | nil => simp [sp]
  | cons b t ih =>
    unfold sp
    split
    · intro x hx
      rcases List.mem_cons.1 hx with rfl | hx
      · simp
      · have := ih x hx; simp; omega
    · intro x hx
      rcases List.mem_cons.1 hx with rfl | hx
      · have := ih ((sp t).headD []) (by rw [sp_head t]; simp)
        simp only [List.length_cons]
        omega
      · have := ih x (List.mem_of_mem_tail hx)
        simp; omega
theorem spB_parts (s : ByteArray) : ∀ x ∈ spB s, x.size ≤ s.size := by
  intro x hx
  obtain ⟨l, hl, rfl⟩ := List.mem_map.1 hx
  have := sp_parts _ l hl
  rw [← size_toList, mk_toList, ← size_toList]
  exact this
/-- names joined -/
def joinS (l : List ByteArray) : ByteArray := mk (Lib.join (l.map ByteArray.toList) [47])
theorem joinS_spB (s : ByteArray) : joinS (spB s) = s := by
  unfold joinS
  rw [spB_lists, join_sp, mk_of]
theorem spB_joinS {l : List ByteArray} (hl : l ≠ []) (h : ∀ x ∈ l, ∀ b ∈ x.toList, b ≠ 47) : spB (joinS l) = l := by
  refine (spB_eq ?_).symm
  unfold joinS
  rw [mk_toList, sp_join _ (by simpa using hl)]
  intro x hx
  obtain ⟨y, hy, rfl⟩ := List.mem_map.1 hx
  exact h y hy
end Go.Proofs.Ytjbpdepeimgocaa.Pa
namespace Go.Proofs.Ytjbpdepeimgocaa.Pa
open Go.RowKit

theorem decode_big (s : ByteArray) (k : Nat) (h : k < s.size) (hb : ¬ (s[k]'h).toNat < 128) : 128 ≤ (Utf8.decode s k).1 := by
  have e : s.get! k = s[k]'h := by
    simp [ByteArray.get!, getElem!_pos, h]
    rfl
  rw [Lib.decode_at, e]
  rcases Lib.decodeN_cases (s.size - k) (s[k]'h).toNat (s.get! (k + 1)).toNat (s.get! (k + 2)).toNat (s.get! (k + 3)).toNat with ⟨c, _⟩ | ⟨_, _, _, c, e⟩ | ⟨_, _, _, _, c, e⟩ | ⟨c, _⟩ | e
  · exact absurd c hb
  · rw [e]; exact c
  · rw [e]; dsimp only; omega
  · omega
  · rw [e]; dsimp only; omega
theorem letterK_big {z : Int} (h : 128 ≤ z) : letterK z = false := by
  unfold letterK
  rw [show decide (z ≤ 122) = false by simp; omega, show decide (z ≤ 57) = false by simp; omega, show (z == 46) = false by simp; omega, show (z == 45) = false by simp; omega, show (z == 95) = false by simp; omega]
  simp
theorem lb_big {b : UInt8} (h : ¬ b.toNat < 128) : lb b = false := letterK_big (by omega)
/-- how many dots there are ahead of k -/
def dotsK (s : ByteArray) (k : Nat) : Nat := (s.toList.take k).countP fun b => b == 46
theorem dotsK_succ (s : ByteArray) (k : Nat) (h : k < s.size) : dotsK s (k + 1) = dotsK s k + (if s[k] = 46 then 1 else 0) := by
  have hl : k < s.toList.length := by rw [size_toList]; exact h
  have e : s.toList[k] = s[k] := by
    have := get_toList s k h
    rw [List.getElem?_eq_getElem hl] at this
    injection this
  unfold dotsK
  rw [List.take_succ_eq_append_getElem hl, List.countP_append, e]
  simp [List.countP_cons]
theorem dotsK_all (s : ByteArray) : (decide ((dotsK s s.size : Int) < (s.size : Int))) = !(s.toList.all fun b => b == 46) := by
  have e : dotsK s s.size = s.toList.countP fun b => b == 46 := by
    unfold dotsK
    rw [List.take_of_length_le (by rw [size_toList]; omega)]
  have h1 := List.countP_le_length (p := fun b : UInt8 => b == 46) (l := s.toList)
  have h2 := List.countP_eq_length (p := fun b : UInt8 => b == 46) (l := s.toList)
  rw [← e, size_toList] at h1 h2
  cases ha : s.toList.all fun b => b == 46 with
  | true =>
    have := h2.2 (by simpa using ha)
    rw [this]; simp
  | false =>
    have : dotsK s s.size ≠ s.size := fun h => by
      have h3 := List.all_eq_true.2 (h2.1 h)
      rw [ha] at h3
      cases h3
    simp; omega
theorem lk_iff (z : Int) : letterK z = true ↔ (97 ≤ z ∧ z ≤ 122) ∨ (48 ≤ z ∧ z ≤ 57) ∨ z = 46 ∨ z = 45 ∨ z = 95 := by
  unfold letterK
  simp only [Bool.or_eq_true, Bool.and_eq_true, decide_eq_true_eq, beq_iff_eq]
  omega
theorem lk_yes {z : Int} (h : (97 ≤ z ∧ z ≤ 122) ∨ (48 ≤ z ∧ z ≤ 57) ∨ z = 46 ∨ z = 45 ∨ z = 95) : letterK z = true := (lk_iff z).2 h
theorem lk_no {z : Int} (h : ¬ ((97 ≤ z ∧ z ≤ 122) ∨ (48 ≤ z ∧ z ≤ 57) ∨ z = 46 ∨ z = 45 ∨ z = 95)) : letterK z = false := by
  cases hh : letterK z with
  | false => rfl
  | true => exact absurd ((lk_iff z).1 hh) h
set_option maxRecDepth 100000 in
set_option maxHeartbeats 2000000 in
theorem rname_c (s : ByteArray) (w : World) (hs : s.size ≤ 100000) : Calls Try.prog 23 #[.string s] w (fun e w' => e = .returned (.bool (nameK s)) ∧ w = w') := by
  have HK : Hid (nameK s = (!s.toList.isEmpty && decide (s.size ≤ 12) && s.toList.all lb && !(s.toList.all fun b => b == 46))) := rfl
  generalize nameK s = z at HK
  have HBrk : Hid (s.toList.all lb = false → z = false) := fun h => by rw [HK.out, h]; simp
  go_enter Try.func23, Try.ntmps23
  go_wp2_with fail
  go_loopw [3, 4] (fun d i wr => ∃ k : Nat, k ≤ s.size ∧ wr = w ∧ i = .int .i64 k ∧ d = .int .i64 (dotsK s k) ∧ (s.toList.take k).all lb = true) (fun _ i _ => s.size - (intOf i).toNat)
  case atStart => exact ⟨0, by omega, rfl, rfl, rfl, rfl⟩
  case round =>
    obtain ⟨k, hk, rfl, rfl, rfl, hl⟩ := hrel
    have hdk : dotsK s k ≤ k := Nat.le_trans List.countP_le_length (List.length_take_le _ _)
    by_cases hlt : k < s.size
    · have HBad : Hid (lb (s[k]'hlt) = false → s.toList.all lb = false) := fun h => all_false_of hlt h
      have HS1 := hid (take_succ_all s k hlt lb)
      have HS2 := hid (dotsK_succ s k hlt)
      have HL := hid hl
      clear hl
      by_cases h46 : s[k] = 46
      · have hb : ((s[k].toNat : Int) == 46) = true := by rw [h46]; rfl
        have HD : Hid (dotsK s (k + 1) = dotsK s k + 1) := by
          unfold Hid; rw [HS2.out, if_pos h46]
        have HA : Hid ((s.toList.take (k + 1)).all lb = true) := by
          unfold Hid; rw [HS1.out, HL.out, h46]; rfl
        clear h46 HS1 HS2
        go_wp2_with fail
        go_roundw
        case rel => exact ⟨k + 1, by omega, trivial, by go_num, by rw [HD.out]; go_num, HA.out⟩
        case measure => simp [intOf]; omega
      · have hb : ((s[k].toNat : Int) == 46) = false := by
          simp only [beq_eq_false_iff_ne, ne_eq]
          intro h
          exact h46 (UInt8.toNat_inj.1 (show s[k].toNat = (46 : UInt8).toNat by have : (46 : UInt8).toNat = 46 := rfl; omega))
        have HD : Hid (dotsK s (k + 1) = dotsK s k) := by
          unfold Hid; rw [HS2.out, if_neg h46]; omega
        have HA : Hid ((s.toList.take (k + 1)).all lb = letterK (s[k].toNat : Int)) := by
          unfold Hid; rw [HS1.out, HL.out]; rfl
        have HB2 : Hid (letterK (s[k].toNat : Int) = false → z = false) := fun h => HBrk.out (HBad.out h)
        clear h46 HS1 HS2 HBad HBrk
        go_wp2_with fail
        all_goals first
          | (go_ret
             obtain rfl := HB2.out (lk_no (by simp_all <;> omega))
             exact ⟨rfl, rfl⟩)
          | (go_roundw
             case rel => exact ⟨k + 1, by omega, trivial, by go_num, by rw [HD.out], by rw [HA.out]; exact lk_yes (by simp_all <;> omega)⟩
             case measure => simp [intOf]; omega)
    · obtain rfl : k = s.size := by omega
      rw [List.take_of_length_le (by rw [size_toList]; omega)] at hl
      have HD := hid (dotsK_all s)
      have he : (!s.toList.isEmpty) = decide (1 ≤ (s.size : Int)) := by
        rw [← size_toList]
        cases s.toList with
        | nil => rfl
        | cons _ _ => simp; omega
      have h12 : decide (s.size ≤ 12) = decide ((s.size : Int) ≤ 12) := decide_eq_decide.2 (by omega)
      have HZ : Hid (z = (decide (1 ≤ (s.size : Int)) && decide ((s.size : Int) ≤ 12) && decide ((dotsK s s.size : Int) < (s.size : Int)))) := by
        unfold Hid
        rw [HK.out, he, h12, hl, HD.out, Bool.and_true]
      clear hdk HBrk HK HD he h12 hl
      go_wp2_with fail
      all_goals go_ret
      all_goals refine ⟨?_, rfl⟩
      all_goals rw [HZ.out]
      · show Ending.returned (.bool (decide (dotsK s s.size < s.size))) = _
        rw [decide_eq_true (by assumption : 1 ≤ (s.size : Int)), decide_eq_true (by assumption : (s.size : Int) ≤ 12), Bool.true_and, Bool.true_and]
        congr 2
        exact decide_eq_decide.2 (by omega)
      · show Ending.returned (.bool false) = _
        rw [show decide ((s.size : Int) ≤ 12) = false by simp; omega]
        simp
      · show Ending.returned (.bool false) = _
        rw [show decide (1 ≤ (s.size : Int)) = false by simp; omega]
        simp
end Go.Proofs.Ytjbpdepeimgocaa.Pa
namespace Go.Proofs.Ytjbpdepeimgocaa.Pa
open Go.RowKit

theorem ownsRow_ext {w w' : World} {base : Nat} {e : TypeId} {sz : Nat} {v : Value} {n : Nat} {xs : List Value} (h : w.ownsRow base e sz v n xs) (he : Ext w w') : w'.ownsRow base e sz v n xs :=
  ⟨h.1, h.2.imp id fun ⟨g, cap, cur, hv, hb, hg, r⟩ => ⟨g, cap, cur, hv, hb, he.heap hg, r⟩⟩
theorem string_info : (Try.prog.info? 9).map (fun i => (i.zero, i.size, i.bytes)) = some (some (.string ⟨#[]⟩), 1, 16) := by kernel_rfl
theorem row_block {w : World} {B : Nat} {e : TypeId} {sz : Nat} {v : Value} {n : Nat} {xs : List Value} (h : w.ownsRow B e sz v n xs) (a : Nat) (ha : v.ownBlock = some a) : B ≤ a ∧ a < w.heap.size := by
  rcases h.2 with ⟨rfl, _⟩ | ⟨g, cap, cur, rfl, hb, hg, _⟩
  · simp [Value.ownBlock] at ha
  · simp [Value.ownBlock] at ha
    subst ha
    exact ⟨hb, (show Blk w g e cur from hg).lt⟩
theorem sl_of_row {w : World} {base : Nat} {e : TypeId} {sz : Nat} {v : Value} {xs : List (List Value)} (hsz : ∀ x ∈ xs, x.length = sz) (h : w.ownsRow base e sz v xs.length xs.flatten) : Sl w sz v xs := by
  rcases h.2 with ⟨rfl, h0⟩ | ⟨g, cap, cur, rfl, _, hg, h1, h2, h3, h4⟩
  · have : xs = [] := List.eq_nil_of_length_eq_zero h0
    subst this
    exact Sl.nil w sz
  · exact Sl.of_flat (show Blk w g e cur from hg) ⟨cur.toList.drop (xs.length * sz), by rw [← h4, List.take_append_drop]⟩ hsz rfl h1 h2
theorem own_strs {w : World} {base : Nat} {e : TypeId} {v : Value} {l : List ByteArray} (h : w.ownsRow base e 1 v l.length (l.map .string)) : Sl w 1 v (Strs l) :=
  sl_of_row (fun x hx => by obtain ⟨y, _, rfl⟩ := List.mem_map.1 hx; rfl) (by rw [strs_flat, show (Strs l).length = l.length by simp [Strs]]; exact h)

theorem seg_toList (s : ByteArray) (a b : Nat) : (s.extract a b).toList = (s.toList.drop a).take (b - a) := by
  rw [Lib.toList_data, Lib.toList_data, ByteArray.data_extract, Array.toList_extract, List.extract_eq_take_drop]
/-- no slash between two places -/
def noSl (s : ByteArray) (a k : Nat) : Prop := ∀ x ∈ (s.extract a k).toList, x ≠ 47
theorem seg_split (s : ByteArray) (a k : Nat) (hk : k < s.size) (ha : a ≤ k) : s.toList.drop a = (s.extract a k).toList ++ s[k] :: s.toList.drop (k + 1) := by
  have hl : k < s.toList.length := by rw [size_toList]; exact hk
  have e : s.toList[k] = s[k] := by
    have := get_toList s k hk
    rw [List.getElem?_eq_getElem hl] at this
    injection this
  rw [seg_toList, ← e, ← List.drop_eq_getElem_cons hl]
  have h2 := List.take_append_drop (k - a) (s.toList.drop a)
  rw [List.drop_drop, show a + (k - a) = k by omega] at h2
  exact h2.symm
theorem noSl_start (s : ByteArray) (a : Nat) : noSl s a a := by
  intro x hx
  rw [seg_toList, Nat.sub_self] at hx
  simp at hx
theorem noSl_step (s : ByteArray) (a k : Nat) (hk : k < s.size) (ha : a ≤ k) (h : noSl s a k) (h47 : s[k] ≠ 47) : noSl s a (k + 1) := by
  intro x hx
  have e : (s.extract a (k + 1)).toList = (s.extract a k).toList ++ [s[k]] := by
    have hlen : ((s.extract a k).toList).length = k - a := by rw [size_toList, ByteArray.size_extract]; omega
    rw [seg_toList s a (k + 1), seg_split s a k hk ha, show k + 1 - a = ((s.extract a k).toList).length + 1 by omega, List.take_length_add_append]
    rfl
  rw [e] at hx
  rcases List.mem_append.1 hx with hx | hx
  · exact h x hx
  · have : x = s[k] := by simpa using hx
    rw [this]; exact h47
theorem cut_at (s : ByteArray) (a k : Nat) (hk : k < s.size) (ha : a ≤ k) (h : noSl s a k) (h47 : s[k] = 47) : sp (s.toList.drop a) = (s.extract a k).toList :: sp (s.toList.drop (k + 1)) := by
  rw [seg_split s a k hk ha, h47]
  exact sp_app _ _ h
theorem cut_end (s : ByteArray) (a : Nat) (h : noSl s a s.size) : sp (s.toList.drop a) = [(s.extract a s.size).toList] := by
  have e : (s.extract a s.size).toList = s.toList.drop a := by
    rw [seg_toList, List.take_of_length_le]
    rw [List.length_drop, size_toList]
    omega
  rw [e]
  unfold noSl at h
  rw [e] at h
  exact sp_none _ h

set_option maxRecDepth 100000 in
set_option maxHeartbeats 4000000 in
theorem rsplit_c (s : ByteArray) (w : World) (hs : s.size ≤ 100000) : Calls Try.prog 22 #[.string s, .int .u8 47] w (RetQ (fun v w' => Sl w' 1 v (Strs (spB s))) w) := by
  obtain ⟨i0, hi0, hz0, hz1, hz2⟩ := info_parts string_info
  go_enter Try.func22, Try.ntmps22
  go_wp2_with fail
  go_loopw [5, 6, 7] (fun v a i wr => ∃ k m : Nat, k ≤ s.size ∧ m ≤ k ∧ i = .int .i64 k ∧ a = .int .i64 m ∧ Ext w wr ∧ ∃ acc : List ByteArray, acc.length ≤ k ∧ sp s.toList = acc.map ByteArray.toList ++ sp (s.toList.drop m) ∧ noSl s m k ∧ wr.ownsRow w.heap.size 9 1 v acc.length (acc.map .string)) (fun _ _ i _ => s.size - (intOf i).toNat)
  case atStart => exact ⟨0, 0, by omega, by omega, rfl, rfl, Ext.refl _, [], Nat.zero_le _, rfl, noSl_start s 0, ⟨rfl, .inl ⟨rfl, rfl⟩⟩⟩
  case round =>
    obtain ⟨k, m, hk, hm, rfl, rfl, hE, acc, hacc, hrest, hno, hown⟩ := hrel
    have HE := hid hE
    have HRest := hid hrest
    have HOwn := hid hown
    by_cases hlt : k < s.size
    · by_cases h47 : s[k] = 47
      · have hb : ((s[k].toNat : Int) == 47) = true := by rw [h47]; rfl
        have HC := hid (cut_at s m k hlt hm hno h47)
        have hbs : w.heap.size ≤ (wr.alloc (.cells #[.string (s.extract m k)] 9)).heap.size := by have := HE.out.size; simp; omega
        have O4 : Hid ((wr.alloc (.cells #[.string (s.extract m k)] 9)).ownsRow w.heap.size 9 1 u5 acc.length (acc.map .string)) := ownsRow_ext HOwn.out (Ext.alloc _ _)
        have HN := hid (noSl_start s (k + 1))
        clear h47 hno hE hrest hown
        go_wp2_with (at_builtin; refine wpList_append_lies _ rfl (.tmp 19) (.tmp 24) _ rfl w.heap.size 9 i0 _ 1 16 Try.underlying48 hi0 hz0 hz1 hz2 rfl (by omega) u5 acc.length (acc.map .string) rfl O4.out ⟨wr.heap.size, 0, none⟩ 1 1 [.string (s.extract m k)] rfl rfl (World.news_of_block (cs := #[.string (s.extract m k)]) (t := 9) (fr := (0, 0)) (heap_alloc_new wr _)) (by simp [Value.oneCell']) (by omega) (by unfold maxLen; omega) (by omega) hbs _ rfl ?_; intro g2 c2 w4 hown4 hgrow hat hlt4; have HB : Hid (Ext w w4) := (HE.out.alloc' _).grown hgrow hbs (fun q hq => (row_block O4.out q hq).1); have HO4 := hid hown4; clear hgrow hat hlt4 hown4)
        go_roundw
        case rel => exact ⟨k + 1, k + 1, by omega, by omega, by go_num, by go_num, HB.out, acc ++ [s.extract m k], by simp; omega, by rw [HRest.out, HC.out]; simp, HN.out, by simpa using HO4.out⟩
        case measure => simp [intOf]; omega
      · have hb : ((s[k].toNat : Int) == 47) = false := by
          simp only [beq_eq_false_iff_ne, ne_eq]
          intro h
          exact h47 (UInt8.toNat_inj.1 (show s[k].toNat = (47 : UInt8).toNat by have : (47 : UInt8).toNat = 47 := rfl; omega))
        have HN := hid (noSl_step s m k hlt hm hno h47)
        clear h47 hno hE hrest hown
        go_wp2_with fail
        go_roundw
        case rel => exact ⟨k + 1, m, by omega, by omega, by go_num, rfl, HE.out, acc, by omega, HRest.out, HN.out, HOwn.out⟩
        case measure => simp [intOf]; omega
    · obtain rfl : k = s.size := by omega
      have HC := hid (cut_end s m hno)
      have hbs : w.heap.size ≤ (wr.alloc (.cells #[.string (s.extract m s.size)] 9)).heap.size := by have := HE.out.size; simp; omega
      have O4 : Hid ((wr.alloc (.cells #[.string (s.extract m s.size)] 9)).ownsRow w.heap.size 9 1 u5 acc.length (acc.map .string)) := ownsRow_ext HOwn.out (Ext.alloc _ _)
      have HF : Hid (acc ++ [s.extract m s.size] = spB s) := by
        refine spB_eq ?_
        rw [HRest.out, HC.out]; simp
      clear hno hE hrest hown
      go_wp2_with (at_builtin; refine wpList_append_lies _ rfl (.tmp 28) (.tmp 32) _ rfl w.heap.size 9 i0 _ 1 16 Try.underlying48 hi0 hz0 hz1 hz2 rfl (by omega) u5 acc.length (acc.map .string) rfl O4.out ⟨wr.heap.size, 0, none⟩ 1 1 [.string (s.extract m s.size)] rfl rfl (World.news_of_block (cs := #[.string (s.extract m s.size)]) (t := 9) (fr := (0, 0)) (heap_alloc_new wr _)) (by simp [Value.oneCell']) (by omega) (by unfold maxLen; omega) (by omega) hbs _ rfl ?_; intro g2 c2 w4 hown4 hgrow hat hlt4; have HB : Hid (Ext w w4) := (HE.out.alloc' _).grown hgrow hbs (fun q hq => (row_block O4.out q hq).1); have HO4 := hid hown4; clear hgrow hat hlt4 hown4)
      go_ret
      exact ⟨_, rfl, by rw [← HF.out]; exact own_strs (by simpa using HO4.out), HB.out⟩
/-- is a text a path? -/
def rightK (s : ByteArray) : Bool := (spB s).all nameK && decide (s.size ≤ 40) && decide ((spB s).length ≤ 6)
set_option maxRecDepth 100000 in
set_option maxHeartbeats 2000000 in
theorem right_c (s : ByteArray) (w : World) (hs : s.size ≤ 99999) : Calls Try.prog 12 #[.string s] w (Ret (.bool (rightK s)) w) := by
  have HSp := hid (rsplit_c s w (by omega))
  have hlen := spB_length s
  have hparts := spB_parts s
  unfold rightK
  generalize spB s = l at HSp hlen hparts
  go_enter Try.func12, Try.ntmps12
  go_wp2_with (go_at_call 22; refine (HSp.out).mono ?_; rintro e w1 ⟨v1, rfl, hv, hx⟩; have HX := hid hx; obtain ⟨A, c, rfl, h1, h2, h3⟩ := sl_str hv; clear hx hv)
  clear HSp
  unfold maxLen at h2
  go_loopw [4] (fun i wr => ∃ k : Nat, k ≤ l.length ∧ i = .int .i64 k ∧ wr = w1 ∧ (l.take k).all nameK = true) (fun i _ => l.length - (intOf i).toNat)
  case atStart => exact ⟨0, by omega, rfl, rfl, rfl⟩
  case round =>
    obtain ⟨k, hk, rfl, rfl, hall⟩ := hrel
    by_cases hlt : k < l.length
    · obtain ⟨b, o, rfl, lb0, hc⟩ := h3 (by omega)
      have c0 := hc k hlt
      have HN : Hid (∀ W, Calls Try.prog 23 #[.string l[k]] W (fun e w' => e = .returned (.bool (nameK l[k])) ∧ W = w')) := fun W => rname_c _ W (by have := hparts _ (List.getElem_mem hlt); omega)
      have HS : Hid ((l.take (k + 1)).all nameK = nameK l[k]) := by unfold Hid; rw [List.take_succ_eq_append_getElem hlt, List.all_append, hall]; simp
      have HB : Hid (nameK l[k] = false → l.all nameK = false) := fun h => by rw [List.all_eq_false]; exact ⟨_, List.getElem_mem hlt, by rw [h]; simp⟩
      clear hc h3 hall hparts
      generalize l[k] = t at c0 HN HS HB
      cases hn : nameK t with
      | true =>
        rw [hn] at HN
        go_wp2_with (go_at_call 23; refine (HN.out _).mono ?_; rintro e w' ⟨rfl, rfl⟩)
        go_roundw
        case rel => exact ⟨k + 1, by omega, by go_num, trivial, by rw [HS.out, hn]⟩
        case measure => simp [intOf]; omega
      | false =>
        rw [hn] at HN
        go_wp2_with (go_at_call 23; refine (HN.out _).mono ?_; rintro e w' ⟨rfl, rfl⟩)
        go_ret
        exact ⟨by rw [HB.out hn]; rfl, HX.out⟩
    · obtain rfl : k = l.length := by omega
      rw [List.take_length] at hall
      have HA := hid hall
      clear hall h3 hparts
      by_cases h40 : s.size ≤ 40
      · have d40 : decide ((s.size : Int) ≤ 40) = true := by simp; omega
        have HQ : Hid ((l.all nameK && decide (s.size ≤ 40) && decide (l.length ≤ 6)) = decide ((l.length : Int) ≤ 6)) := by
          unfold Hid
          rw [HA.out, decide_eq_true h40]
          simp
          omega
        clear h40
        go_wp2_with fail
        go_ret
        exact ⟨by rw [HQ.out]; rfl, HX.out⟩
      · have d40 : decide ((s.size : Int) ≤ 40) = false := by simp; omega
        have HQ : Hid ((l.all nameK && decide (s.size ≤ 40) && decide (l.length ≤ 6)) = false) := by
          unfold Hid
          rw [HA.out, decide_eq_false h40]
          simp
        clear h40
        go_wp2_with fail
        go_ret
        exact ⟨by rw [HQ.out]; rfl, HX.out⟩
end Go.Proofs.Ytjbpdepeimgocaa.Pa
namespace Go.Proofs.Ytjbpdepeimgocaa.Pa
open Go.RowKit

def pathNo (s : ByteArray) : Int := if rightK s then 0 else 13
def pathNames (s : ByteArray) : List ByteArray := if rightK s then spB s else []
end Go.Proofs.Ytjbpdepeimgocaa.Pa
