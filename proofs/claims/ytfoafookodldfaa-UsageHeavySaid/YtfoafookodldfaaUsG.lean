/-
  Package usage: All; the document's All.
-/
import Derived.Test.YtfoafookodldfaaUsF
import Derived.Test.YtfoafookodldfaaIdxY
namespace Go.Proofs.Ytfoafookodldfaa
set_option linter.unusedSimpArgs false
set_option linter.unusedVariables false
open Go.RowKit

theorem extract_le (s : ByteArray) (k : Nat) : (s.extract 0 k).size ≤ s.size := by
  rw [← size_toList, ← size_toList, extract_toList, List.length_take]
  exact Nat.min_le_right _ _
theorem pre_size {l : List LeafI} (h : ∀ x ∈ l, x.path.size ≤ 1000) : ∀ p ∈ preK l, p.name.size ≤ 1000 := by
  unfold preK
  suffices ∀ (l : List LeafI) (q : List PairI), (∀ x ∈ l, x.path.size ≤ 1000) → Srt q → Zeros q → (∀ p ∈ q, p.name.size ≤ 1000) → ∀ p ∈ l.foldl (fun q x => putZ q (chainN x.path.size x.path)) q, p.name.size ≤ 1000 from this l base0 h base0_srt base0_zeros (fun p hp => by rw [List.mem_singleton.1 hp]; simp [ByteArray.size])
  intro l
  induction l with
  | nil => intro q _ _ _ h; exact h
  | cons x l ih =>
    intro q h h1 h2 h3
    obtain ⟨a1, a2, _, a4⟩ := putZ_facts q (chainN x.path.size x.path) h1 h2
    refine ih _ (fun y hy => h y (by simp [hy])) a1 a2 fun p hp => ?_
    have hx := h x (by simp)
    rcases (a4 p.name).1 (List.mem_map.2 ⟨p, hp, rfl⟩) with hm | hm
    · rcases (mem_chain _ _ _ (Nat.le_refl _)).1 hm with e | e | ⟨j, _, _, e⟩
      · rw [e]; exact hx
      · rw [e]; simp [ByteArray.size]
      · rw [e]; exact Nat.le_trans (extract_le _ _) hx
    · obtain ⟨p', hp', e⟩ := List.mem_map.1 hm
      rw [← e]; exact h3 p' hp'
def allK (l : List LeafI) (q : List PairI) : List UseI := q.map fun p => ofK l p.name
theorem allK_succ (l : List LeafI) (q : List PairI) (k : Nat) (h : k < q.length) : allK l (q.take (k + 1)) = allK l (q.take k) ++ [ofK l q[k].name] := by
  unfold allK
  rw [List.take_succ_eq_append_getElem h, List.map_append]; rfl
theorem allK_length (l : List LeafI) (q : List PairI) : (allK l q).length = q.length := List.length_map _
theorem uses_append (l : List UseI) (u : UseI) : (Uses (l ++ [u])).flatten = (Uses l).flatten ++ [.string u.pre, .int .i64 u.files, .int .i64 u.bytes] := by simp [Uses, UseI.cells]

set_option maxRecDepth 100000 in
set_option maxHeartbeats 2000000 in
theorem uall_c (w : World) (v : Value) (l : List LeafI) (h : Sl w 5 v (Leaves l)) (hs : Few100 l) : Calls Try.prog 32 #[v] w (RetQ (fun v' w' => Sl w' 3 v' (Uses (allK l (preK l)))) w) := by
  obtain ⟨i0, hi0, hz0, hz1, hz2⟩ := info_parts use_info
  have HPre := hid (pre_c w v l h hs)
  have hql : (preK l).length ≤ 1 + 100 * 1001 := by
    have := pre_length (l := l) (fun x hx => (hs.2 x hx).1)
    have h3 : l.length * 1001 ≤ 100 * 1001 := Nat.mul_le_mul_right _ hs.1
    omega
  have hqs := hid (pre_size (l := l) (fun x hx => (hs.2 x hx).1))
  generalize preK l = q at HPre hql hqs
  have HOf : Hid (∀ W t, Ext w W → t.size ≤ 1000 → Calls Try.prog 29 #[v, .string t] W (Ret (.agg #[.string t, .int .i64 (filesK l t), .int .i64 (bytesK l t)]) W)) := fun W t he ht => uof_c W v l t (h.ext he) hs.slim ht
  clear h
  go_enter Try.func32, Try.ntmps32
  go_wp2_with (first
    | (go_at_call 48; refine (HPre.out).mono ?_; rintro e w1 ⟨g, rfl, hM⟩; have HM := hid hM; clear hM)
    | (go_at_call 14; refine (HM.out.len).mono ?_; rintro e w' ⟨rfl, rfl⟩))
  go_loopw [3, 13] (fun v i wr => ∃ k : Nat, k ≤ q.length ∧ i = .int .i64 k ∧ Ext w1 wr ∧ wr.ownsRow w1.heap.size 55 3 v k (Uses (allK l (q.take k))).flatten) (fun _ i _ => q.length - (intOf i).toNat)
  case atStart => exact ⟨0, by omega, rfl, Ext.refl _, ⟨rfl, .inl ⟨rfl, rfl⟩⟩⟩
  case round =>
    obtain ⟨k, hk, rfl, hE, hown⟩ := hrel
    by_cases hlt : k < q.length
    · have HA := hid ((HM.out.ext hE).at_ k hlt)
      have ht := hqs.out _ (List.getElem_mem hlt)
      have HS := hid (allK_succ l q k hlt)
      have HE := hid hE
      have HOwn := hid hown
      clear hE hown
      generalize q[k].n = m at HA
      generalize q[k].name = t at HA ht HS
      go_wp2_with (first
        | (go_at_call 15; refine (HA.out).mono ?_; rintro e w2 ⟨rfl, hx⟩; have HX2 := hid (HE.out.trans hx); have HOwn2 := hid (ownsRow_ext HOwn.out hx); clear hx)
        | (go_at_call 29; refine (HOf.out _ _ (HM.out.later.trans HX2.out) ht).mono ?_; rintro e w3 ⟨rfl, hx⟩; have HX3 := hid (HX2.out.trans hx); have HOwn3 := hid (ownsRow_ext HOwn2.out hx); have O4 := hid (ownsRow_ext HOwn3.out (Ext.alloc w3 (.cells #[.string t, .int .i64 (filesK l t), .int .i64 (bytesK l t)] 55))); have hbs := (HX3.out.alloc' (.cells #[.string t, .int .i64 (filesK l t), .int .i64 (bytesK l t)] 55)).size; clear hx)
        | (at_builtin; refine wpList_append_lies _ rfl (.tmp 23) (.tmp 27) _ rfl w1.heap.size 55 i0 _ 3 32 Try.underlying58 hi0 hz0 hz1 hz2 rfl (by omega) u3 k (Uses (allK l (q.take k))).flatten rfl O4.out ⟨w3.heap.size, 0, none⟩ 1 1 [.string t, .int .i64 (filesK l t), .int .i64 (bytesK l t)] rfl rfl (World.news_of_block (cs := #[.string t, .int .i64 (filesK l t), .int .i64 (bytesK l t)]) (t := 55) (fr := (0, 0)) (heap_alloc_new w3 _)) (by simp [Value.oneCell']) (by omega) (by unfold maxLen; omega) (by omega) hbs _ rfl ?_; intro g2 c2 w4 hown4 hgrow hat hlt4; have HB : Hid (Ext w1 w4) := (HX3.out.alloc' _).grown hgrow hbs (fun q hq => (row_block O4.out q hq).1); have HO4 := hid hown4; clear hgrow hat hlt4 hown4 hbs))
      go_roundw
      case rel => exact ⟨k + 1, by omega, by go_num, HB.out, by rw [HS.out, uses_append]; exact HO4.out⟩
      case measure => simp [intOf]; omega
    · obtain rfl : k = q.length := by omega
      rw [List.take_length] at hown
      have HE := hid hE
      have HOwn := hid hown
      clear hE hown
      go_wp2_with fail
      go_ret
      refine ⟨_, rfl, sl_of_row (uses_sz _) (by rw [show (Uses (allK l q)).length = q.length by simp [Uses, allK]]; exact HOwn.out), HM.out.later.trans HE.out⟩
end Go.Proofs.Ytfoafookodldfaa
