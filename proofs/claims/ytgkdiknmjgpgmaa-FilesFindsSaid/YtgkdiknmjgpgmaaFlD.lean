/-
  A number's digits; the name behind another one: the document's and the package's.
-/
import Derived.Test.YtgkdiknmjgpgmaaFlC
import Derived.Laws.BytesString
namespace Go.Proofs.Ytgkdiknmjgpgmaa
set_option linter.unusedSimpArgs false
set_option linter.unusedVariables false
open Go.RowKit Go.Sort

/-- a digit's byte -/
def dgB (n : Nat) : UInt8 := UInt8.ofNat (48 + n)
theorem nil_append (s : ByteArray) : (⟨#[]⟩ : ByteArray) ++ s = s := by
  apply ByteArray.ext
  rw [ByteArray.data_append]; simp
def digK (n : Nat) : ByteArray := if h : n < 10 then ⟨#[dgB n]⟩ else digK (n / 10) ++ ⟨#[dgB (n % 10)]⟩
termination_by n
decreasing_by omega
theorem digK_small {n : Nat} (h : n < 10) : digK n = ⟨#[dgB n]⟩ := by rw [digK, dif_pos h]
theorem digK_big {n : Nat} (h : ¬ n < 10) : digK n = digK (n / 10) ++ ⟨#[dgB (n % 10)]⟩ := by rw [digK, dif_neg h]
theorem digK_size : ∀ (d n : Nat), n < 10 ^ (d + 1) → (digK n).size ≤ d + 1
  | 0, n, h => by rw [digK_small (by simpa using h)]; exact Nat.le_refl _
  | d + 1, n, h => by
    by_cases hn : n < 10
    · rw [digK_small hn]; show 1 ≤ _; omega
    · rw [digK_big hn, ByteArray.size_append]
      have := digK_size d (n / 10) (by rw [Nat.pow_succ] at h; omega)
      have e : (⟨#[dgB (n % 10)]⟩ : ByteArray).size = 1 := rfl
      omega
theorem digK_20 (n : Nat) (h : n ≤ 9223372036854775807) : (digK n).size ≤ 20 := digK_size 19 n (by
  have : (10 : Nat) ^ (19 + 1) = 100000000000000000000 := by decide
  omega)
theorem conv_one (w : World) (z : Int) : (convert 86 9 (.slice (some ⟨w.heap.size, 0, none⟩) 1 1)).run Try.prog (w.alloc (.cells #[.int .u8 z] 5)) = .ok (.string ⟨#[UInt8.ofNat z.toNat]⟩) (w.alloc (.cells #[.int .u8 z] 5)) := by
  rw [run_convert_bytes_string _ _ _ 5 _ _ _ Try.underlying86 Try.underlying5 Try.underlying9]
  rw [run_bytesToString _ _ _ _ [z] (by simp [go_sem])]
  rfl
set_option maxRecDepth 100000 in
set_option maxHeartbeats 1000000 in
theorem rdigits_c : ∀ (n : Nat) (w : World), n ≤ 9223372036854775807 → Calls Try.prog 46 #[.int .i64 n] w (Ret (.string (digK n)) w) := by
  intro n
  induction n using Nat.strongRecOn with
  | ind n ih =>
    intro w h
    by_cases hn : n < 10
    · have d0 : decide ((10 : Int) ≤ (n : Int)) = false := by simp; omega
      have hc := fun W => conv_one W (48 + (n : Int) % 10)
      have e : (48 + (n : Int) % 10).toNat = 48 + n := by omega
      rw [e] at hc
      have HC : ∀ W : World, _ = Result.ok (Value.string ⟨#[dgB n]⟩) _ := fun W => hc W
      rw [digK_small hn]
      clear e hc
      generalize dgB n = z at HC ⊢
      go_enter Try.func46, Try.ntmps46
      go_wp2_with fail
      go_ret
      exact ⟨by rw [← nil_append ⟨#[z]⟩]; rfl, Ext.alloc _ _⟩
    · have d0 : decide ((10 : Int) ≤ (n : Int)) = true := by simp; omega
      have hc := fun W => conv_one W (48 + (n : Int) % 10)
      have e : (48 + (n : Int) % 10).toNat = 48 + n % 10 := by omega
      rw [e] at hc
      have hsz := digK_20 (n / 10) (by omega)
      have HI := hid (ih (n / 10) (by omega) w (by omega))
      have HC : ∀ W : World, _ = Result.ok (Value.string ⟨#[dgB (n % 10)]⟩) _ := fun W => hc W
      rw [digK_big hn]
      have e2 : ((n / 10 : Nat) : Int) = (n : Int) / 10 := by omega
      rw [e2] at HI
      clear e e2 ih hc
      generalize dgB (n % 10) = z at HC ⊢
      generalize digK (n / 10) = t at HI hsz ⊢
      go_enter Try.func46, Try.ntmps46
      go_wp2_with (go_at_call 46; refine (HI.out).mono ?_; rintro e w2 ⟨rfl, hx⟩; have HX := hid hx; clear hx)
      go_ret
      exact ⟨rfl, HX.out.trans (Ext.alloc _ _)⟩
end Go.Proofs.Ytgkdiknmjgpgmaa
