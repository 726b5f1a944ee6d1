/-
  pack.one, pack.fits, pack.list of versions.
-/
import Derived.Test.YtanflgipdiogaaaDoorVcD
import Derived.Test.YtanflgipdiogaaaDoorQaD
namespace Go.Proofs.YtanflgipdiogaaaDoor
set_option linter.unusedSimpArgs false
set_option linter.unusedVariables false
open Go.RowKit

set_option maxRecDepth 100000 in
set_option maxHeartbeats 1000000 in
theorem fits_c (w : World) (s : ByteArray) (b : Bool) : Calls Tryd.prog 45 #[.string s, .bool b] w (Ret (.tuple #[.string (if b = true ∧ s.size ≠ 0 then s else ⟨#[]⟩), .int .i64 (if b = true then (if s.size ≠ 0 then 0 else 4) else 2)]) w) := by
  cases b with
  | false =>
    rw [if_neg (fun h => by cases h.1), if_neg (fun h => by cases h)]
    go_enter Tryd.func45, Tryd.ntmps45
    go_wp2_with fail
    go_ret2
    exact ⟨rfl, Ext.refl _⟩
  | true =>
    rw [if_pos rfl]
    by_cases h0 : s.size = 0
    · have hs : s = ⟨#[]⟩ := ByteArray.ext (Array.eq_empty_of_size_eq_zero h0)
      subst hs
      rw [if_neg (fun h => h.2 rfl), if_neg (fun h => h rfl)]
      go_enter Tryd.func45, Tryd.ntmps45
      go_wp2_with fail
      go_ret2
      exact ⟨rfl, Ext.refl _⟩
    · rw [if_pos ⟨rfl, h0⟩, if_pos h0]
      have d0 : s.toList.isEmpty = false := by
        cases h : s.toList.isEmpty with
        | false => rfl
        | true => rw [← size_toL, List.isEmpty_iff.1 h] at h0; exact absurd rfl h0
      clear h0
      go_enter Tryd.func45, Tryd.ntmps45
      go_wp2_with fail
      go_ret2
      exact ⟨rfl, Ext.refl _⟩
/-- A version whose numbers can be laid. -/
def okVer (v : Ver) : Prop := 0 ≤ v.by_ ∧ v.by_ ≤ 9223372036854775807 ∧ 0 ≤ v.n ∧ v.n ≤ 9223372036854775807
theorem ver_enc {v : Ver} (h : okVer v) : (⟨(encL [fN v.by_, fN v.n]).toArray⟩ : ByteArray) = verB v := by
  apply ByteArray.ext
  apply Array.ext'
  unfold verB
  simp only [ByteArray.data_append, Array.toList_append, numB_list h.1, numB_list h.2.2.1]
  simp [encL, fN, FldI.enc]
theorem verB_okle {v : Ver} (h : okVer v) : (verB v).size ≤ 18 := verB_18 (by have := h.1; have := h.2.1; unfold in64; omega) (by have := h.2.2.1; have := h.2.2.2; unfold in64; omega)
theorem verB_pos {v : Ver} (h : okVer v) : 0 < (verB v).size := by
  have h1 : (numB v.by_).data.toList.length = (numB v.by_).size := by rw [Array.length_toList]; rfl
  rw [numB_list h.1] at h1
  have := lebL_pos v.by_.toNat
  unfold verB
  rw [ByteArray.size_append]
  omega
set_option maxRecDepth 100000 in
set_option maxHeartbeats 1000000 in
theorem one_c (w : World) (x : Ver) (hx : okVer x) : Calls Tryd.prog 79 #[.agg #[.int .i64 x.by_, .int .i64 x.n]] w (Ret (.string (verB x)) w) := by
  have HV := fun W => hid (pver_c W x)
  have hok : ∀ f ∈ [fN x.by_, fN x.n], f.ok := fun f hf => by
    obtain ⟨h1, h2, h3, h4⟩ := hx
    simp only [List.mem_cons, List.not_mem_nil, or_false] at hf
    rcases hf with rfl | rfl
    · exact ⟨Nat.zero_le _, fun _ => h1, h2⟩
    · exact ⟨Nat.zero_le _, fun _ => h3, h4⟩
  have hlen : (encL [fN x.by_, fN x.n]).length ≤ 65536 := by
    have h1 : (encL [fN x.by_, fN x.n]).length = (⟨(encL [fN x.by_, fN x.n]).toArray⟩ : ByteArray).size := rfl
    have h2 := verB_okle hx
    rw [ver_enc hx] at h1
    omega
  have HP := fun W v (h : Sl W 3 v ([fN x.by_, fN x.n].map FldI.cells)) => hid (play_c W v [fN x.by_, fN x.n] h hok (by simp) hlen)
  rw [ver_enc hx] at HP
  have HE := hid (Ext.alloc w (.cells #[.int .i64 x.by_, .int .i64 x.n] 34))
  unfold Ver.val at HV
  clear hok hlen hx
  generalize verB x = r at HP ⊢
  go_enter Tryd.func79, Tryd.ntmps79
  go_wp2_with fail
  refine ((HV _).out).mono ?_
  rintro en w1 ⟨v, rfl, ⟨ho, q, rfl⟩, x1⟩
  have HS := hid ho.sl
  have HE1 := hid (HE.out.trans x1)
  clear x1 ho
  go_wp2_with fail
  refine ((HP _ _ HS.out).out).mono ?_
  rintro en w2 ⟨rfl, x2⟩
  have HE2 := hid (HE1.out.trans x2)
  clear x2
  go_wp2_with fail
  go_ret
  exact ⟨rfl, HE2.out⟩
end Go.Proofs.YtanflgipdiogaaaDoor
