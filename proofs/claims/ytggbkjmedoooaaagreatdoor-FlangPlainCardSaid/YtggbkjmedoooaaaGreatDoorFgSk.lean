/-
  Texts cut at a comma, a colon, a hyphen (written by gen_fgs.py); the document's Split at them.
-/
import Derived.Test.YtggbkjmedoooaaaGreatDoorQdA
namespace Go.Proofs.YtggbkjmedoooaaaGreatDoor
set_option linter.unusedSimpArgs false
set_option linter.unusedVariables false
open Go.RowKit

namespace C44
open Pa
/-- the parts between slashes -/
def sp : List UInt8 → List (List UInt8)
  | [] => [[]]
  | b :: t => if b = 44 then [] :: sp t else (b :: (sp t).headD []) :: (sp t).tail
theorem sp_ne (l : List UInt8) : sp l ≠ [] := by
  cases l with
  | nil => simp [sp]
  | cons b t => unfold sp; split <;> simp
theorem sp_head (l : List UInt8) : sp l = (sp l).headD [] :: (sp l).tail := by
  have := sp_ne l
  cases h : sp l with
  | nil => exact absurd h this
  | cons x r => rfl
theorem sp_app : ∀ (a t : List UInt8), (∀ x ∈ a, x ≠ 44) → sp (a ++ 44 :: t) = a :: sp t
  | [], t, _ => by simp [sp]
  | b :: a, t, h => by
    have hb := h b (by simp)
    have ih := sp_app a t fun x hx => h x (by simp [hx])
    show sp (b :: (a ++ 44 :: t)) = _
    rw [sp, if_neg hb, ih]
    rfl
theorem sp_none : ∀ (a : List UInt8), (∀ x ∈ a, x ≠ 44) → sp a = [a]
  | [], _ => rfl
  | b :: a, h => by
    have hb := h b (by simp)
    have ih := sp_none a fun x hx => h x (by simp [hx])
    rw [sp, if_neg hb, ih]
    rfl
theorem join_tail1 (y : List UInt8) (r : List (List UInt8)) : Lib.joinTail [44] (y :: r) = 44 :: Lib.join (y :: r) [44] := by
  rw [Lib.join_cons]
  simp [Lib.joinTail]
theorem join_sp (l : List UInt8) : Lib.join (sp l) [44] = l := by
  induction l with
  | nil => simp [sp, Lib.join_one]
  | cons b t ih =>
    by_cases hb : b = 44
    · rw [sp, if_pos hb, Lib.join_cons, sp_head t, join_tail1, ← sp_head t, ih, hb]
      rfl
    · rw [sp, if_neg hb, Lib.join_cons]
      rw [sp_head t, Lib.join_cons] at ih
      rw [List.cons_append, ih]
theorem sp_join : ∀ (l : List (List UInt8)), l ≠ [] → (∀ x ∈ l, ∀ b ∈ x, b ≠ 44) → sp (Lib.join l [44]) = l
  | [], h, _ => absurd rfl h
  | [x], _, h => by rw [Lib.join_one]; exact sp_none x (h x (by simp))
  | x :: y :: r, _, h => by
    rw [Lib.join_cons, join_tail1, sp_app x _ (h x (by simp)), sp_join (y :: r) (by simp) fun z hz => h z (by simp [hz])]
theorem splitK_cons (b : UInt8) (hb : b ≠ 44) (l : List UInt8) (k : Nat) : Lib.splitK [44] 0 k (b :: l) = (b :: (Lib.splitK [44] 0 k l).headD []) :: (Lib.splitK [44] 0 k l).tail := by
  cases k with
  | zero => rfl
  | succ k =>
    have hp : ([44] : List UInt8).isPrefixOf (b :: l) = false := by simp [List.isPrefixOf, Ne.symm hb]
    have hix : Lib.index (b :: l) [44] = if Lib.index l [44] == -1 then -1 else Lib.index l [44] + 1 := by rw [Lib.index, hp]; simp
    unfold Lib.splitK
    by_cases hm : Lib.index l [44] = -1
    · rw [hix, hm]; simp
    · have hge := Lib.index_ge l [44]
      have h1 : (Lib.index l [44] == -1) = false := by simpa using hm
      have h2 : (Lib.index l [44] + 1 == -1) = false := by simp; omega
      rw [hix, h1]
      simp only [Bool.false_eq_true, if_false, h2]
      have e : (Lib.index l [44] + 1).toNat = (Lib.index l [44]).toNat + 1 := by omega
      rw [e]
      simp [Nat.add_right_comm _ 1]
theorem split_sp (l : List UInt8) : Lib.split l [44] = sp l := by
  unfold Lib.split
  induction l with
  | nil => rfl
  | cons b t ih =>
    by_cases hb : b = 44
    · subst hb
      rw [Lib.count_cons_eq, sp, if_pos rfl, ← ih, Nat.add_comm 1]
      have hix : Lib.index (44 :: t) [44] = ((0 : Nat) : Int) := by rw [Lib.index]; simp [List.isPrefixOf]
      rw [Lib.splitK, hix]
      simp
    · rw [Lib.count_cons_ne b 44 t hb, splitK_cons b hb, sp, if_neg hb, ih]

/-- the parts of a text -/
def spB (s : ByteArray) : List ByteArray := (sp s.toList).map mk
theorem spB_lists (s : ByteArray) : (spB s).map ByteArray.toList = sp s.toList := by
  unfold spB
  rw [List.map_map]
  conv => rhs; rw [← List.map_id (sp s.toList)]
  congr 1
  funext l
  exact mk_toList l
theorem spB_eq {s : ByteArray} {l : List ByteArray} (h : l.map ByteArray.toList = sp s.toList) : l = spB s := by
  unfold spB
  rw [← h, List.map_map]
  conv => lhs; rw [← List.map_id l]
  congr 1
  funext x
  exact (mk_of x).symm
theorem splitB_spB (s : ByteArray) : Lib.splitB ⟨#[44]⟩ 0 (Lib.countB s ⟨#[44]⟩) s = spB s := by
  refine spB_eq ?_
  have h := Lib.splitB_data ⟨#[44]⟩ 0 (Lib.countB s ⟨#[44]⟩) s
  have h2 := split_sp s.data.toList
  have e : (ByteArray.toList : ByteArray → List UInt8) = fun x => x.data.toList := funext Lib.toList_data
  rw [e]
  exact h.trans h2
theorem countB_spB (s : ByteArray) : Lib.countB s ⟨#[44]⟩ + 1 = (spB s).length := by
  rw [← splitB_spB]
  exact (Lib.splitB_all ⟨#[44]⟩ (by show 1 ≤ 1; omega) 0 _ s rfl).symm
theorem sp_length (l : List UInt8) : (sp l).length ≤ l.length + 1 := by
  induction l with
  | nil => simp [sp]
  | cons b t ih =>
    unfold sp
    split
    · simp; exact ih
    · have := sp_ne t
      simp only [List.length_cons, List.length_tail]
      omega
theorem spB_length (s : ByteArray) : (spB s).length ≤ s.size + 1 := by
  unfold spB
  rw [List.length_map, ← size_toList]
  exact sp_length _
theorem sp_parts (l : List UInt8) : ∀ x ∈ sp l, x.length ≤ l.length := by
  induction l with
  | nil => simp [sp]
  | cons b t ih =>
    unfold sp
    split
    · intro x hx
      rcases List.mem_cons.1 hx with rfl | hx
      · simp
      · have := ih x hx; simp; omega
    · intro x hx
      rcases List.mem_cons.1 hx with rfl | hx
      · have := ih ((sp t).headD []) (by rw [sp_head t]; simp)
        simp only [List.length_cons]
        omega
      · have := ih x (List.mem_of_mem_tail hx)
        simp; omega
theorem spB_parts (s : ByteArray) : ∀ x ∈ spB s, x.size ≤ s.size := by
  intro x hx
  obtain ⟨l, hl, rfl⟩ := List.mem_map.1 hx
  have := sp_parts _ l hl
  rw [← size_toList, mk_toList, ← size_toList]
  exact this
/-- names joined -/
def joinS (l : List ByteArray) : ByteArray := mk (Lib.join (l.map ByteArray.toList) [44])
theorem joinS_spB (s : ByteArray) : joinS (spB s) = s := by
  unfold joinS
  rw [spB_lists, join_sp, mk_of]
theorem spB_joinS {l : List ByteArray} (hl : l ≠ []) (h : ∀ x ∈ l, ∀ b ∈ x.toList, b ≠ 44) : spB (joinS l) = l := by
  refine (spB_eq ?_).symm
  unfold joinS
  rw [mk_toList, sp_join _ (by simpa using hl)]
  intro x hx
  obtain ⟨y, hy, rfl⟩ := List.mem_map.1 hx
  exact h y hy
/-- no slash between two places -/
def noSl (s : ByteArray) (a k : Nat) : Prop := ∀ x ∈ (s.extract a k).toList, x ≠ 44
theorem seg_split (s : ByteArray) (a k : Nat) (hk : k < s.size) (ha : a ≤ k) : s.toList.drop a = (s.extract a k).toList ++ s[k] :: s.toList.drop (k + 1) := by
  have hl : k < s.toList.length := by rw [size_toList]; exact hk
  have e : s.toList[k] = s[k] := by
    have := get_toList s k hk
    rw [List.getElem?_eq_getElem hl] at this
    injection this
  rw [seg_toList, ← e, ← List.drop_eq_getElem_cons hl]
  have h2 := List.take_append_drop (k - a) (s.toList.drop a)
  rw [List.drop_drop, show a + (k - a) = k by omega] at h2
  exact h2.symm
theorem noSl_start (s : ByteArray) (a : Nat) : noSl s a a := by
  intro x hx
  rw [seg_toList, Nat.sub_self] at hx
  simp at hx
theorem noSl_step (s : ByteArray) (a k : Nat) (hk : k < s.size) (ha : a ≤ k) (h : noSl s a k) (h44 : s[k] ≠ 44) : noSl s a (k + 1) := by
  intro x hx
  have e : (s.extract a (k + 1)).toList = (s.extract a k).toList ++ [s[k]] := by
    have hlen : ((s.extract a k).toList).length = k - a := by rw [size_toList, ByteArray.size_extract]; omega
    rw [seg_toList s a (k + 1), seg_split s a k hk ha, show k + 1 - a = ((s.extract a k).toList).length + 1 by omega, List.take_length_add_append]
    rfl
  rw [e] at hx
  rcases List.mem_append.1 hx with hx | hx
  · exact h x hx
  · have : x = s[k] := by simpa using hx
    rw [this]; exact h44
theorem cut_at (s : ByteArray) (a k : Nat) (hk : k < s.size) (ha : a ≤ k) (h : noSl s a k) (h44 : s[k] = 44) : sp (s.toList.drop a) = (s.extract a k).toList :: sp (s.toList.drop (k + 1)) := by
  rw [seg_split s a k hk ha, h44]
  exact sp_app _ _ h
theorem cut_end (s : ByteArray) (a : Nat) (h : noSl s a s.size) : sp (s.toList.drop a) = [(s.extract a s.size).toList] := by
  have e : (s.extract a s.size).toList = s.toList.drop a := by
    rw [seg_toList, List.take_of_length_le]
    rw [List.length_drop, size_toList]
    omega
  rw [e]
  unfold noSl at h
  rw [e] at h
  exact sp_none _ h

set_option maxRecDepth 100000 in
set_option maxHeartbeats 4000000 in
theorem rsplit_c (s : ByteArray) (w : World) (hs : s.size ≤ 100000) : Calls Tryz.prog 23 #[.string s, .int .u8 44] w (RetQ (fun v w' => Sl w' 1 v (Strs (spB s))) w) := by
  obtain ⟨i0, hi0, hz0, hz1, hz2⟩ := info_parts string_info
  go_enter Tryz.func23, Tryz.ntmps23
  go_wp2_with fail
  go_loopw [5, 6, 7] (fun v a i wr => ∃ k m : Nat, k ≤ s.size ∧ m ≤ k ∧ i = .int .i64 k ∧ a = .int .i64 m ∧ Ext w wr ∧ ∃ acc : List ByteArray, acc.length ≤ k ∧ sp s.toList = acc.map ByteArray.toList ++ sp (s.toList.drop m) ∧ noSl s m k ∧ wr.ownsRow w.heap.size 9 1 v acc.length (acc.map .string)) (fun _ _ i _ => s.size - (intOf i).toNat)
  case atStart => exact ⟨0, 0, by omega, by omega, rfl, rfl, Ext.refl _, [], Nat.zero_le _, rfl, noSl_start s 0, ⟨rfl, .inl ⟨rfl, rfl⟩⟩⟩
  case round =>
    obtain ⟨k, m, hk, hm, rfl, rfl, hE, acc, hacc, hrest, hno, hown⟩ := hrel
    have HE := hid hE
    have HRest := hid hrest
    have HOwn := hid hown
    by_cases hlt : k < s.size
    · by_cases h44 : s[k] = 44
      · have hb : ((s[k].toNat : Int) == 44) = true := by rw [h44]; rfl
        have HC := hid (cut_at s m k hlt hm hno h44)
        have hbs : w.heap.size ≤ (wr.alloc (.cells #[.string (s.extract m k)] 9)).heap.size := by have := HE.out.size; simp; omega
        have O4 : Hid ((wr.alloc (.cells #[.string (s.extract m k)] 9)).ownsRow w.heap.size 9 1 u5 acc.length (acc.map .string)) := ownsRow_ext HOwn.out (Ext.alloc _ _)
        have HN := hid (noSl_start s (k + 1))
        clear h44 hno hE hrest hown
        go_wp2_with (at_builtin; refine wpList_append_lies _ rfl (.tmp 19) (.tmp 24) _ rfl w.heap.size 9 i0 _ 1 16 Tryz.underlying43 hi0 hz0 hz1 hz2 rfl (by omega) u5 acc.length (acc.map .string) rfl O4.out ⟨wr.heap.size, 0, none⟩ 1 1 [.string (s.extract m k)] rfl rfl (World.news_of_block (cs := #[.string (s.extract m k)]) (t := 9) (fr := (0, 0)) (heap_alloc_new wr _)) (by simp [Value.oneCell']) (by omega) (by unfold maxLen; omega) (by omega) hbs _ rfl ?_; intro g2 c2 w4 hown4 hgrow hat hlt4; have HB : Hid (Ext w w4) := (HE.out.alloc' _).grown hgrow hbs (fun q hq => (row_block O4.out q hq).1); have HO4 := hid hown4; clear hgrow hat hlt4 hown4)
        go_roundw
        case rel => exact ⟨k + 1, k + 1, by omega, by omega, by go_num, by go_num, HB.out, acc ++ [s.extract m k], by simp; omega, by rw [HRest.out, HC.out]; simp, HN.out, by simpa using HO4.out⟩
        case measure => simp [intOf]; omega
      · have hb : ((s[k].toNat : Int) == 44) = false := by
          simp only [beq_eq_false_iff_ne, ne_eq]
          intro h
          exact h44 (UInt8.toNat_inj.1 (show s[k].toNat = (44 : UInt8).toNat by have : (44 : UInt8).toNat = 44 := rfl; omega))
        have HN := hid (noSl_step s m k hlt hm hno h44)
        clear h44 hno hE hrest hown
        go_wp2_with fail
        go_roundw
        case rel => exact ⟨k + 1, m, by omega, by omega, by go_num, rfl, HE.out, acc, by omega, HRest.out, HN.out, HOwn.out⟩
        case measure => simp [intOf]; omega
    · obtain rfl : k = s.size := by omega
      have HC := hid (cut_end s m hno)
      have hbs : w.heap.size ≤ (wr.alloc (.cells #[.string (s.extract m s.size)] 9)).heap.size := by have := HE.out.size; simp; omega
      have O4 : Hid ((wr.alloc (.cells #[.string (s.extract m s.size)] 9)).ownsRow w.heap.size 9 1 u5 acc.length (acc.map .string)) := ownsRow_ext HOwn.out (Ext.alloc _ _)
      have HF : Hid (acc ++ [s.extract m s.size] = spB s) := by
        refine spB_eq ?_
        rw [HRest.out, HC.out]; simp
      clear hno hE hrest hown
      go_wp2_with (at_builtin; refine wpList_append_lies _ rfl (.tmp 28) (.tmp 32) _ rfl w.heap.size 9 i0 _ 1 16 Tryz.underlying43 hi0 hz0 hz1 hz2 rfl (by omega) u5 acc.length (acc.map .string) rfl O4.out ⟨wr.heap.size, 0, none⟩ 1 1 [.string (s.extract m s.size)] rfl rfl (World.news_of_block (cs := #[.string (s.extract m s.size)]) (t := 9) (fr := (0, 0)) (heap_alloc_new wr _)) (by simp [Value.oneCell']) (by omega) (by unfold maxLen; omega) (by omega) hbs _ rfl ?_; intro g2 c2 w4 hown4 hgrow hat hlt4; have HB : Hid (Ext w w4) := (HE.out.alloc' _).grown hgrow hbs (fun q hq => (row_block O4.out q hq).1); have HO4 := hid hown4; clear hgrow hat hlt4 hown4)
      go_ret
      exact ⟨_, rfl, by rw [← HF.out]; exact own_strs (by simpa using HO4.out), HB.out⟩
end C44

namespace C58
open Pa
/-- the parts between slashes -/
def sp : List UInt8 → List (List UInt8)
  | [] => [[]]
  | b :: t => if b = 58 then [] :: sp t else (b :: (sp t).headD []) :: (sp t).tail
theorem sp_ne (l : List UInt8) : sp l ≠ [] := by
  cases l with
  | nil => simp [sp]
  | cons b t => unfold sp; split <;> simp
theorem sp_head (l : List UInt8) : sp l = (sp l).headD [] :: (sp l).tail := by
  have := sp_ne l
  cases h : sp l with
  | nil => exact absurd h this
  | cons x r => rfl
theorem sp_app : ∀ (a t : List UInt8), (∀ x ∈ a, x ≠ 58) → sp (a ++ 58 :: t) = a :: sp t
  | [], t, _ => by simp [sp]
  | b :: a, t, h => by
    have hb := h b (by simp)
    have ih := sp_app a t fun x hx => h x (by simp [hx])
    show sp (b :: (a ++ 58 :: t)) = _
    rw [sp, if_neg hb, ih]
    rfl
theorem sp_none : ∀ (a : List UInt8), (∀ x ∈ a, x ≠ 58) → sp a = [a]
  | [], _ => rfl
  | b :: a, h => by
    have hb := h b (by simp)
    have ih := sp_none a fun x hx => h x (by simp [hx])
    rw [sp, if_neg hb, ih]
    rfl
theorem join_tail1 (y : List UInt8) (r : List (List UInt8)) : Lib.joinTail [58] (y :: r) = 58 :: Lib.join (y :: r) [58] := by
  rw [Lib.join_cons]
  simp [Lib.joinTail]
theorem join_sp (l : List UInt8) : Lib.join (sp l) [58] = l := by
  induction l with
  | nil => simp [sp, Lib.join_one]
  | cons b t ih =>
    by_cases hb : b = 58
    · rw [sp, if_pos hb, Lib.join_cons, sp_head t, join_tail1, ← sp_head t, ih, hb]
      rfl
    · rw [sp, if_neg hb, Lib.join_cons]
      rw [sp_head t, Lib.join_cons] at ih
      rw [List.cons_append, ih]
theorem sp_join : ∀ (l : List (List UInt8)), l ≠ [] → (∀ x ∈ l, ∀ b ∈ x, b ≠ 58) → sp (Lib.join l [58]) = l
  | [], h, _ => absurd rfl h
  | [x], _, h => by rw [Lib.join_one]; exact sp_none x (h x (by simp))
  | x :: y :: r, _, h => by
    rw [Lib.join_cons, join_tail1, sp_app x _ (h x (by simp)), sp_join (y :: r) (by simp) fun z hz => h z (by simp [hz])]
theorem splitK_cons (b : UInt8) (hb : b ≠ 58) (l : List UInt8) (k : Nat) : Lib.splitK [58] 0 k (b :: l) = (b :: (Lib.splitK [58] 0 k l).headD []) :: (Lib.splitK [58] 0 k l).tail := by
  cases k with
  | zero => rfl
  | succ k =>
    have hp : ([58] : List UInt8).isPrefixOf (b :: l) = false := by simp [List.isPrefixOf, Ne.symm hb]
    have hix : Lib.index (b :: l) [58] = if Lib.index l [58] == -1 then -1 else Lib.index l [58] + 1 := by rw [Lib.index, hp]; simp
    unfold Lib.splitK
    by_cases hm : Lib.index l [58] = -1
    · rw [hix, hm]; simp
    · have hge := Lib.index_ge l [58]
      have h1 : (Lib.index l [58] == -1) = false := by simpa using hm
      have h2 : (Lib.index l [58] + 1 == -1) = false := by simp; omega
      rw [hix, h1]
      simp only [Bool.false_eq_true, if_false, h2]
      have e : (Lib.index l [58] + 1).toNat = (Lib.index l [58]).toNat + 1 := by omega
      rw [e]
      simp [Nat.add_right_comm _ 1]
theorem split_sp (l : List UInt8) : Lib.split l [58] = sp l := by
  unfold Lib.split
  induction l with
  | nil => rfl
  | cons b t ih =>
    by_cases hb : b = 58
    · subst hb
      rw [Lib.count_cons_eq, sp, if_pos rfl, ← ih, Nat.add_comm 1]
      have hix : Lib.index (58 :: t) [58] = ((0 : Nat) : Int) := by rw [Lib.index]; simp [List.isPrefixOf]
      rw [Lib.splitK, hix]
      simp
    · rw [Lib.count_cons_ne b 58 t hb, splitK_cons b hb, sp, if_neg hb, ih]

/-- the parts of a text -/
def spB (s : ByteArray) : List ByteArray := (sp s.toList).map mk
theorem spB_lists (s : ByteArray) : (spB s).map ByteArray.toList = sp s.toList := by
  unfold spB
  rw [List.map_map]
  conv => rhs; rw [← List.map_id (sp s.toList)]
  congr 1
  funext l
  exact mk_toList l
theorem spB_eq {s : ByteArray} {l : List ByteArray} (h : l.map ByteArray.toList = sp s.toList) : l = spB s := by
  unfold spB
  rw [← h, List.map_map]
  conv => lhs; rw [← List.map_id l]
  congr 1
  funext x
  exact (mk_of x).symm
theorem splitB_spB (s : ByteArray) : Lib.splitB ⟨#[58]⟩ 0 (Lib.countB s ⟨#[58]⟩) s = spB s := by
  refine spB_eq ?_
  have h := Lib.splitB_data ⟨#[58]⟩ 0 (Lib.countB s ⟨#[58]⟩) s
  have h2 := split_sp s.data.toList
  have e : (ByteArray.toList : ByteArray → List UInt8) = fun x => x.data.toList := funext Lib.toList_data
  rw [e]
  exact h.trans h2
theorem countB_spB (s : ByteArray) : Lib.countB s ⟨#[58]⟩ + 1 = (spB s).length := by
  rw [← splitB_spB]
  exact (Lib.splitB_all ⟨#[58]⟩ (by show 1 ≤ 1; omega) 0 _ s rfl).symm
theorem sp_length (l : List UInt8) : (sp l).length ≤ l.length + 1 := by
  induction l with
  | nil => simp [sp]
  | cons b t ih =>
    unfold sp
    split
    · simp; exact ih
    · have := sp_ne t
      simp only [List.length_cons, List.length_tail]
      omega
theorem spB_length (s : ByteArray) : (spB s).length ≤ s.size + 1 := by
  unfold spB
  rw [List.length_map, ← size_toList]
  exact sp_length _
theorem sp_parts (l : List UInt8) : ∀ x ∈ sp l, x.length ≤ l.length := by
  induction l with
  | nil => simp [sp]
  | cons b t ih =>
    unfold sp
    split
    · intro x hx
      rcases List.mem_cons.1 hx with rfl | hx
      · simp
      · have := ih x hx; simp; omega
    · intro x hx
      rcases List.mem_cons.1 hx with rfl | hx
      · have := ih ((sp t).headD []) (by rw [sp_head t]; simp)
        simp only [List.length_cons]
        omega
      · have := ih x (List.mem_of_mem_tail hx)
        simp; omega
theorem spB_parts (s : ByteArray) : ∀ x ∈ spB s, x.size ≤ s.size := by
  intro x hx
  obtain ⟨l, hl, rfl⟩ := List.mem_map.1 hx
  have := sp_parts _ l hl
  rw [← size_toList, mk_toList, ← size_toList]
  exact this
/-- names joined -/
def joinS (l : List ByteArray) : ByteArray := mk (Lib.join (l.map ByteArray.toList) [58])
theorem joinS_spB (s : ByteArray) : joinS (spB s) = s := by
  unfold joinS
  rw [spB_lists, join_sp, mk_of]
theorem spB_joinS {l : List ByteArray} (hl : l ≠ []) (h : ∀ x ∈ l, ∀ b ∈ x.toList, b ≠ 58) : spB (joinS l) = l := by
  refine (spB_eq ?_).symm
  unfold joinS
  rw [mk_toList, sp_join _ (by simpa using hl)]
  intro x hx
  obtain ⟨y, hy, rfl⟩ := List.mem_map.1 hx
  exact h y hy
/-- no slash between two places -/
def noSl (s : ByteArray) (a k : Nat) : Prop := ∀ x ∈ (s.extract a k).toList, x ≠ 58
theorem seg_split (s : ByteArray) (a k : Nat) (hk : k < s.size) (ha : a ≤ k) : s.toList.drop a = (s.extract a k).toList ++ s[k] :: s.toList.drop (k + 1) := by
  have hl : k < s.toList.length := by rw [size_toList]; exact hk
  have e : s.toList[k] = s[k] := by
    have := get_toList s k hk
    rw [List.getElem?_eq_getElem hl] at this
    injection this
  rw [seg_toList, ← e, ← List.drop_eq_getElem_cons hl]
  have h2 := List.take_append_drop (k - a) (s.toList.drop a)
  rw [List.drop_drop, show a + (k - a) = k by omega] at h2
  exact h2.symm
theorem noSl_start (s : ByteArray) (a : Nat) : noSl s a a := by
  intro x hx
  rw [seg_toList, Nat.sub_self] at hx
  simp at hx
theorem noSl_step (s : ByteArray) (a k : Nat) (hk : k < s.size) (ha : a ≤ k) (h : noSl s a k) (h58 : s[k] ≠ 58) : noSl s a (k + 1) := by
  intro x hx
  have e : (s.extract a (k + 1)).toList = (s.extract a k).toList ++ [s[k]] := by
    have hlen : ((s.extract a k).toList).length = k - a := by rw [size_toList, ByteArray.size_extract]; omega
    rw [seg_toList s a (k + 1), seg_split s a k hk ha, show k + 1 - a = ((s.extract a k).toList).length + 1 by omega, List.take_length_add_append]
    rfl
  rw [e] at hx
  rcases List.mem_append.1 hx with hx | hx
  · exact h x hx
  · have : x = s[k] := by simpa using hx
    rw [this]; exact h58
theorem cut_at (s : ByteArray) (a k : Nat) (hk : k < s.size) (ha : a ≤ k) (h : noSl s a k) (h58 : s[k] = 58) : sp (s.toList.drop a) = (s.extract a k).toList :: sp (s.toList.drop (k + 1)) := by
  rw [seg_split s a k hk ha, h58]
  exact sp_app _ _ h
theorem cut_end (s : ByteArray) (a : Nat) (h : noSl s a s.size) : sp (s.toList.drop a) = [(s.extract a s.size).toList] := by
  have e : (s.extract a s.size).toList = s.toList.drop a := by
    rw [seg_toList, List.take_of_length_le]
    rw [List.length_drop, size_toList]
    omega
  rw [e]
  unfold noSl at h
  rw [e] at h
  exact sp_none _ h

set_option maxRecDepth 100000 in
set_option maxHeartbeats 4000000 in
theorem rsplit_c (s : ByteArray) (w : World) (hs : s.size ≤ 100000) : Calls Tryz.prog 23 #[.string s, .int .u8 58] w (RetQ (fun v w' => Sl w' 1 v (Strs (spB s))) w) := by
  obtain ⟨i0, hi0, hz0, hz1, hz2⟩ := info_parts string_info
  go_enter Tryz.func23, Tryz.ntmps23
  go_wp2_with fail
  go_loopw [5, 6, 7] (fun v a i wr => ∃ k m : Nat, k ≤ s.size ∧ m ≤ k ∧ i = .int .i64 k ∧ a = .int .i64 m ∧ Ext w wr ∧ ∃ acc : List ByteArray, acc.length ≤ k ∧ sp s.toList = acc.map ByteArray.toList ++ sp (s.toList.drop m) ∧ noSl s m k ∧ wr.ownsRow w.heap.size 9 1 v acc.length (acc.map .string)) (fun _ _ i _ => s.size - (intOf i).toNat)
  case atStart => exact ⟨0, 0, by omega, by omega, rfl, rfl, Ext.refl _, [], Nat.zero_le _, rfl, noSl_start s 0, ⟨rfl, .inl ⟨rfl, rfl⟩⟩⟩
  case round =>
    obtain ⟨k, m, hk, hm, rfl, rfl, hE, acc, hacc, hrest, hno, hown⟩ := hrel
    have HE := hid hE
    have HRest := hid hrest
    have HOwn := hid hown
    by_cases hlt : k < s.size
    · by_cases h58 : s[k] = 58
      · have hb : ((s[k].toNat : Int) == 58) = true := by rw [h58]; rfl
        have HC := hid (cut_at s m k hlt hm hno h58)
        have hbs : w.heap.size ≤ (wr.alloc (.cells #[.string (s.extract m k)] 9)).heap.size := by have := HE.out.size; simp; omega
        have O4 : Hid ((wr.alloc (.cells #[.string (s.extract m k)] 9)).ownsRow w.heap.size 9 1 u5 acc.length (acc.map .string)) := ownsRow_ext HOwn.out (Ext.alloc _ _)
        have HN := hid (noSl_start s (k + 1))
        clear h58 hno hE hrest hown
        go_wp2_with (at_builtin; refine wpList_append_lies _ rfl (.tmp 19) (.tmp 24) _ rfl w.heap.size 9 i0 _ 1 16 Tryz.underlying43 hi0 hz0 hz1 hz2 rfl (by omega) u5 acc.length (acc.map .string) rfl O4.out ⟨wr.heap.size, 0, none⟩ 1 1 [.string (s.extract m k)] rfl rfl (World.news_of_block (cs := #[.string (s.extract m k)]) (t := 9) (fr := (0, 0)) (heap_alloc_new wr _)) (by simp [Value.oneCell']) (by omega) (by unfold maxLen; omega) (by omega) hbs _ rfl ?_; intro g2 c2 w4 hown4 hgrow hat hlt4; have HB : Hid (Ext w w4) := (HE.out.alloc' _).grown hgrow hbs (fun q hq => (row_block O4.out q hq).1); have HO4 := hid hown4; clear hgrow hat hlt4 hown4)
        go_roundw
        case rel => exact ⟨k + 1, k + 1, by omega, by omega, by go_num, by go_num, HB.out, acc ++ [s.extract m k], by simp; omega, by rw [HRest.out, HC.out]; simp, HN.out, by simpa using HO4.out⟩
        case measure => simp [intOf]; omega
      · have hb : ((s[k].toNat : Int) == 58) = false := by
          simp only [beq_eq_false_iff_ne, ne_eq]
          intro h
          exact h58 (UInt8.toNat_inj.1 (show s[k].toNat = (58 : UInt8).toNat by have : (58 : UInt8).toNat = 58 := rfl; omega))
        have HN := hid (noSl_step s m k hlt hm hno h58)
        clear h58 hno hE hrest hown
        go_wp2_with fail
        go_roundw
        case rel => exact ⟨k + 1, m, by omega, by omega, by go_num, rfl, HE.out, acc, by omega, HRest.out, HN.out, HOwn.out⟩
        case measure => simp [intOf]; omega
    · obtain rfl : k = s.size := by omega
      have HC := hid (cut_end s m hno)
      have hbs : w.heap.size ≤ (wr.alloc (.cells #[.string (s.extract m s.size)] 9)).heap.size := by have := HE.out.size; simp; omega
      have O4 : Hid ((wr.alloc (.cells #[.string (s.extract m s.size)] 9)).ownsRow w.heap.size 9 1 u5 acc.length (acc.map .string)) := ownsRow_ext HOwn.out (Ext.alloc _ _)
      have HF : Hid (acc ++ [s.extract m s.size] = spB s) := by
        refine spB_eq ?_
        rw [HRest.out, HC.out]; simp
      clear hno hE hrest hown
      go_wp2_with (at_builtin; refine wpList_append_lies _ rfl (.tmp 28) (.tmp 32) _ rfl w.heap.size 9 i0 _ 1 16 Tryz.underlying43 hi0 hz0 hz1 hz2 rfl (by omega) u5 acc.length (acc.map .string) rfl O4.out ⟨wr.heap.size, 0, none⟩ 1 1 [.string (s.extract m s.size)] rfl rfl (World.news_of_block (cs := #[.string (s.extract m s.size)]) (t := 9) (fr := (0, 0)) (heap_alloc_new wr _)) (by simp [Value.oneCell']) (by omega) (by unfold maxLen; omega) (by omega) hbs _ rfl ?_; intro g2 c2 w4 hown4 hgrow hat hlt4; have HB : Hid (Ext w w4) := (HE.out.alloc' _).grown hgrow hbs (fun q hq => (row_block O4.out q hq).1); have HO4 := hid hown4; clear hgrow hat hlt4 hown4)
      go_ret
      exact ⟨_, rfl, by rw [← HF.out]; exact own_strs (by simpa using HO4.out), HB.out⟩
end C58

namespace C45
open Pa
/-- the parts between slashes -/
def sp : List UInt8 → List (List UInt8)
  | [] => [[]]
  | b :: t => if b = 45 then [] :: sp t else (b :: (sp t).headD []) :: (sp t).tail
theorem sp_ne (l : List UInt8) : sp l ≠ [] := by
  cases l with
  | nil => simp [sp]
  | cons b t => unfold sp; split <;> simp
theorem sp_head (l : List UInt8) : sp l = (sp l).headD [] :: (sp l).tail := by
  have := sp_ne l
  cases h : sp l with
  | nil => exact absurd h this
  | cons x r => rfl
theorem sp_app : ∀ (a t : List UInt8), (∀ x ∈ a, x ≠ 45) → sp (a ++ 45 :: t) = a :: sp t
  | [], t, _ => by simp [sp]
  | b :: a, t, h => by
    have hb := h b (by simp)
    have ih := sp_app a t fun x hx => h x (by simp [hx])
    show sp (b :: (a ++ 45 :: t)) = _
    rw [sp, if_neg hb, ih]
    rfl
theorem sp_none : ∀ (a : List UInt8), (∀ x ∈ a, x ≠ 45) → sp a = [a]
  | [], _ => rfl
  | b :: a, h => by
    have hb := h b (by simp)
    have ih := sp_none a fun x hx => h x (by simp [hx])
    rw [sp, if_neg hb, ih]
    rfl
theorem join_tail1 (y : List UInt8) (r : List (List UInt8)) : Lib.joinTail [45] (y :: r) = 45 :: Lib.join (y :: r) [45] := by
  rw [Lib.join_cons]
  simp [Lib.joinTail]
theorem join_sp (l : List UInt8) : Lib.join (sp l) [45] = l := by
  induction l with
  | nil => simp [sp, Lib.join_one]
  | cons b t ih =>
    by_cases hb : b = 45
    · rw [sp, if_pos hb, Lib.join_cons, sp_head t, join_tail1, ← sp_head t, ih, hb]
      rfl
    · rw [sp, if_neg hb, Lib.join_cons]
      rw [sp_head t, Lib.join_cons] at ih
      rw [List.cons_append, ih]
theorem sp_join : ∀ (l : List (List UInt8)), l ≠ [] → (∀ x ∈ l, ∀ b ∈ x, b ≠ 45) → sp (Lib.join l [45]) = l
  | [], h, _ => absurd rfl h
  | [x], _, h => by rw [Lib.join_one]; exact sp_none x (h x (by simp))
  | x :: y :: r, _, h => by
    rw [Lib.join_cons, join_tail1, sp_app x _ (h x (by simp)), sp_join (y :: r) (by simp) fun z hz => h z (by simp [hz])]
theorem splitK_cons (b : UInt8) (hb : b ≠ 45) (l : List UInt8) (k : Nat) : Lib.splitK [45] 0 k (b :: l) = (b :: (Lib.splitK [45] 0 k l).headD []) :: (Lib.splitK [45] 0 k l).tail := by
  cases k with
  | zero => rfl
  | succ k =>
    have hp : ([45] : List UInt8).isPrefixOf (b :: l) = false := by simp [List.isPrefixOf, Ne.symm hb]
    have hix : Lib.index (b :: l) [45] = if Lib.index l [45] == -1 then -1 else Lib.index l [45] + 1 := by rw [Lib.index, hp]; simp
    unfold Lib.splitK
    by_cases hm : Lib.index l [45] = -1
    · rw [hix, hm]; simp
    · have hge := Lib.index_ge l [45]
      have h1 : (Lib.index l [45] == -1) = false := by simpa using hm
      have h2 : (Lib.index l [45] + 1 == -1) = false := by simp; omega
      rw [hix, h1]
      simp only [Bool.false_eq_true, if_false, h2]
      have e : (Lib.index l [45] + 1).toNat = (Lib.index l [45]).toNat + 1 := by omega
      rw [e]
      simp [Nat.add_right_comm _ 1]
theorem split_sp (l : List UInt8) : Lib.split l [45] = sp l := by
  unfold Lib.split
  induction l with
  | nil => rfl
  | cons b t ih =>
    by_cases hb : b = 45
    · subst hb
      rw [Lib.count_cons_eq, sp, if_pos rfl, ← ih, Nat.add_comm 1]
      have hix : Lib.index (45 :: t) [45] = ((0 : Nat) : Int) := by rw [Lib.index]; simp [List.isPrefixOf]
      rw [Lib.splitK, hix]
      simp
    · rw [Lib.count_cons_ne b 45 t hb, splitK_cons b hb, sp, if_neg hb, ih]

/-- the parts of a text -/
def spB (s : ByteArray) : List ByteArray := (sp s.toList).map mk
theorem spB_lists (s : ByteArray) : (spB s).map ByteArray.toList = sp s.toList := by
  unfold spB
  rw [List.map_map]
  conv => rhs; rw [← List.map_id (sp s.toList)]
  congr 1
  funext l
  exact mk_toList l
theorem spB_eq {s : ByteArray} {l : List ByteArray} (h : l.map ByteArray.toList = sp s.toList) : l = spB s := by
  unfold spB
  rw [← h, List.map_map]
  conv => lhs; rw [← List.map_id l]
  congr 1
  funext x
  exact (mk_of x).symm
theorem splitB_spB (s : ByteArray) : Lib.splitB ⟨#[45]⟩ 0 (Lib.countB s ⟨#[45]⟩) s = spB s := by
  refine spB_eq ?_
  have h := Lib.splitB_data ⟨#[45]⟩ 0 (Lib.countB s ⟨#[45]⟩) s
  have h2 := split_sp s.data.toList
  have e : (ByteArray.toList : ByteArray → List UInt8) = fun x => x.data.toList := funext Lib.toList_data
  rw [e]
  exact h.trans h2
theorem countB_spB (s : ByteArray) : Lib.countB s ⟨#[45]⟩ + 1 = (spB s).length := by
  rw [← splitB_spB]
  exact (Lib.splitB_all ⟨#[45]⟩ (by show 1 ≤ 1; omega) 0 _ s rfl).symm
theorem sp_length (l : List UInt8) : (sp l).length ≤ l.length + 1 := by
  induction l with
  | nil => simp [sp]
  | cons b t ih =>
    unfold sp
    split
    · simp; exact ih
    · have := sp_ne t
      simp only [List.length_cons, List.length_tail]
      omega
theorem spB_length (s : ByteArray) : (spB s).length ≤ s.size + 1 := by
  unfold spB
  rw [List.length_map, ← size_toList]
  exact sp_length _
theorem sp_parts (l : List UInt8) : ∀ x ∈ sp l, x.length ≤ l.length := by
  induction l with
  | nil => simp [sp]
  | cons b t ih =>
    unfold sp
    split
    · intro x hx
      rcases List.mem_cons.1 hx with rfl | hx
      · simp
      · have := ih x hx; simp; omega
    · intro x hx
      rcases List.mem_cons.1 hx with rfl | hx
      · have := ih ((sp t).headD []) (by rw [sp_head t]; simp)
        simp only [List.length_cons]
        omega
      · have := ih x (List.mem_of_mem_tail hx)
        simp; omega
theorem spB_parts (s : ByteArray) : ∀ x ∈ spB s, x.size ≤ s.size := by
  intro x hx
  obtain ⟨l, hl, rfl⟩ := List.mem_map.1 hx
  have := sp_parts _ l hl
  rw [← size_toList, mk_toList, ← size_toList]
  exact this
/-- names joined -/
def joinS (l : List ByteArray) : ByteArray := mk (Lib.join (l.map ByteArray.toList) [45])
theorem joinS_spB (s : ByteArray) : joinS (spB s) = s := by
  unfold joinS
  rw [spB_lists, join_sp, mk_of]
theorem spB_joinS {l : List ByteArray} (hl : l ≠ []) (h : ∀ x ∈ l, ∀ b ∈ x.toList, b ≠ 45) : spB (joinS l) = l := by
  refine (spB_eq ?_).symm
  unfold joinS
  rw [mk_toList, sp_join _ (by simpa using hl)]
  intro x hx
  obtain ⟨y, hy, rfl⟩ := List.mem_map.1 hx
  exact h y hy
/-- no slash between two places -/
def noSl (s : ByteArray) (a k : Nat) : Prop := ∀ x ∈ (s.extract a k).toList, x ≠ 45
theorem seg_split (s : ByteArray) (a k : Nat) (hk : k < s.size) (ha : a ≤ k) : s.toList.drop a = (s.extract a k).toList ++ s[k] :: s.toList.drop (k + 1) := by
  have hl : k < s.toList.length := by rw [size_toList]; exact hk
  have e : s.toList[k] = s[k] := by
    have := get_toList s k hk
    rw [List.getElem?_eq_getElem hl] at this
    injection this
  rw [seg_toList, ← e, ← List.drop_eq_getElem_cons hl]
  have h2 := List.take_append_drop (k - a) (s.toList.drop a)
  rw [List.drop_drop, show a + (k - a) = k by omega] at h2
  exact h2.symm
theorem noSl_start (s : ByteArray) (a : Nat) : noSl s a a := by
  intro x hx
  rw [seg_toList, Nat.sub_self] at hx
  simp at hx
theorem noSl_step (s : ByteArray) (a k : Nat) (hk : k < s.size) (ha : a ≤ k) (h : noSl s a k) (h45 : s[k] ≠ 45) : noSl s a (k + 1) := by
  intro x hx
  have e : (s.extract a (k + 1)).toList = (s.extract a k).toList ++ [s[k]] := by
    have hlen : ((s.extract a k).toList).length = k - a := by rw [size_toList, ByteArray.size_extract]; omega
    rw [seg_toList s a (k + 1), seg_split s a k hk ha, show k + 1 - a = ((s.extract a k).toList).length + 1 by omega, List.take_length_add_append]
    rfl
  rw [e] at hx
  rcases List.mem_append.1 hx with hx | hx
  · exact h x hx
  · have : x = s[k] := by simpa using hx
    rw [this]; exact h45
theorem cut_at (s : ByteArray) (a k : Nat) (hk : k < s.size) (ha : a ≤ k) (h : noSl s a k) (h45 : s[k] = 45) : sp (s.toList.drop a) = (s.extract a k).toList :: sp (s.toList.drop (k + 1)) := by
  rw [seg_split s a k hk ha, h45]
  exact sp_app _ _ h
theorem cut_end (s : ByteArray) (a : Nat) (h : noSl s a s.size) : sp (s.toList.drop a) = [(s.extract a s.size).toList] := by
  have e : (s.extract a s.size).toList = s.toList.drop a := by
    rw [seg_toList, List.take_of_length_le]
    rw [List.length_drop, size_toList]
    omega
  rw [e]
  unfold noSl at h
  rw [e] at h
  exact sp_none _ h

set_option maxRecDepth 100000 in
set_option maxHeartbeats 4000000 in
theorem rsplit_c (s : ByteArray) (w : World) (hs : s.size ≤ 100000) : Calls Tryz.prog 23 #[.string s, .int .u8 45] w (RetQ (fun v w' => Sl w' 1 v (Strs (spB s))) w) := by
  obtain ⟨i0, hi0, hz0, hz1, hz2⟩ := info_parts string_info
  go_enter Tryz.func23, Tryz.ntmps23
  go_wp2_with fail
  go_loopw [5, 6, 7] (fun v a i wr => ∃ k m : Nat, k ≤ s.size ∧ m ≤ k ∧ i = .int .i64 k ∧ a = .int .i64 m ∧ Ext w wr ∧ ∃ acc : List ByteArray, acc.length ≤ k ∧ sp s.toList = acc.map ByteArray.toList ++ sp (s.toList.drop m) ∧ noSl s m k ∧ wr.ownsRow w.heap.size 9 1 v acc.length (acc.map .string)) (fun _ _ i _ => s.size - (intOf i).toNat)
  case atStart => exact ⟨0, 0, by omega, by omega, rfl, rfl, Ext.refl _, [], Nat.zero_le _, rfl, noSl_start s 0, ⟨rfl, .inl ⟨rfl, rfl⟩⟩⟩
  case round =>
    obtain ⟨k, m, hk, hm, rfl, rfl, hE, acc, hacc, hrest, hno, hown⟩ := hrel
    have HE := hid hE
    have HRest := hid hrest
    have HOwn := hid hown
    by_cases hlt : k < s.size
    · by_cases h45 : s[k] = 45
      · have hb : ((s[k].toNat : Int) == 45) = true := by rw [h45]; rfl
        have HC := hid (cut_at s m k hlt hm hno h45)
        have hbs : w.heap.size ≤ (wr.alloc (.cells #[.string (s.extract m k)] 9)).heap.size := by have := HE.out.size; simp; omega
        have O4 : Hid ((wr.alloc (.cells #[.string (s.extract m k)] 9)).ownsRow w.heap.size 9 1 u5 acc.length (acc.map .string)) := ownsRow_ext HOwn.out (Ext.alloc _ _)
        have HN := hid (noSl_start s (k + 1))
        clear h45 hno hE hrest hown
        go_wp2_with (at_builtin; refine wpList_append_lies _ rfl (.tmp 19) (.tmp 24) _ rfl w.heap.size 9 i0 _ 1 16 Tryz.underlying43 hi0 hz0 hz1 hz2 rfl (by omega) u5 acc.length (acc.map .string) rfl O4.out ⟨wr.heap.size, 0, none⟩ 1 1 [.string (s.extract m k)] rfl rfl (World.news_of_block (cs := #[.string (s.extract m k)]) (t := 9) (fr := (0, 0)) (heap_alloc_new wr _)) (by simp [Value.oneCell']) (by omega) (by unfold maxLen; omega) (by omega) hbs _ rfl ?_; intro g2 c2 w4 hown4 hgrow hat hlt4; have HB : Hid (Ext w w4) := (HE.out.alloc' _).grown hgrow hbs (fun q hq => (row_block O4.out q hq).1); have HO4 := hid hown4; clear hgrow hat hlt4 hown4)
        go_roundw
        case rel => exact ⟨k + 1, k + 1, by omega, by omega, by go_num, by go_num, HB.out, acc ++ [s.extract m k], by simp; omega, by rw [HRest.out, HC.out]; simp, HN.out, by simpa using HO4.out⟩
        case measure => simp [intOf]; omega
      · have hb : ((s[k].toNat : Int) == 45) = false := by
          simp only [beq_eq_false_iff_ne, ne_eq]
          intro h
          exact h45 (UInt8.toNat_inj.1 (show s[k].toNat = (45 : UInt8).toNat by have : (45 : UInt8).toNat = 45 := rfl; omega))
        have HN := hid (noSl_step s m k hlt hm hno h45)
        clear h45 hno hE hrest hown
        go_wp2_with fail
        go_roundw
        case rel => exact ⟨k + 1, m, by omega, by omega, by go_num, rfl, HE.out, acc, by omega, HRest.out, HN.out, HOwn.out⟩
        case measure => simp [intOf]; omega
    · obtain rfl : k = s.size := by omega
      have HC := hid (cut_end s m hno)
      have hbs : w.heap.size ≤ (wr.alloc (.cells #[.string (s.extract m s.size)] 9)).heap.size := by have := HE.out.size; simp; omega
      have O4 : Hid ((wr.alloc (.cells #[.string (s.extract m s.size)] 9)).ownsRow w.heap.size 9 1 u5 acc.length (acc.map .string)) := ownsRow_ext HOwn.out (Ext.alloc _ _)
      have HF : Hid (acc ++ [s.extract m s.size] = spB s) := by
        refine spB_eq ?_
        rw [HRest.out, HC.out]; simp
      clear hno hE hrest hown
      go_wp2_with (at_builtin; refine wpList_append_lies _ rfl (.tmp 28) (.tmp 32) _ rfl w.heap.size 9 i0 _ 1 16 Tryz.underlying43 hi0 hz0 hz1 hz2 rfl (by omega) u5 acc.length (acc.map .string) rfl O4.out ⟨wr.heap.size, 0, none⟩ 1 1 [.string (s.extract m s.size)] rfl rfl (World.news_of_block (cs := #[.string (s.extract m s.size)]) (t := 9) (fr := (0, 0)) (heap_alloc_new wr _)) (by simp [Value.oneCell']) (by omega) (by unfold maxLen; omega) (by omega) hbs _ rfl ?_; intro g2 c2 w4 hown4 hgrow hat hlt4; have HB : Hid (Ext w w4) := (HE.out.alloc' _).grown hgrow hbs (fun q hq => (row_block O4.out q hq).1); have HO4 := hid hown4; clear hgrow hat hlt4 hown4)
      go_ret
      exact ⟨_, rfl, by rw [← HF.out]; exact own_strs (by simpa using HO4.out), HB.out⟩
end C45
end Go.Proofs.YtggbkjmedoooaaaGreatDoor
