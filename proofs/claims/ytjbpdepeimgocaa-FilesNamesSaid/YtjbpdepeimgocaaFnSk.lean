/-
  slices' stable sort at leaves: swapRange, rotate: what lies there afterwards is a permutation.
-/
import Derived.Test.YtjbpdepeimgocaaQaE
namespace Go.Proofs.Ytjbpdepeimgocaa
set_option linter.unusedSimpArgs false
set_option linter.unusedVariables false
open Go.RowKit Go.Sort Go.Lib Go.Shelf

/-- A world of the sort's whose row holds these leaves in whatever order. -/
def SwW (w0 : World) (blk off : Nat) (l : List LeafI) (W : World) : Prop := ∃ dk : Array LeafI, dk.toList.Perm l ∧ SWK LeafI.cells 5 w0 blk off dk W
def RowL (w0 : World) (blk off N : Nat) : Prop := ∃ d0 : Array LeafI, d0.size = N ∧ RowK LeafI.cells 5 w0 blk off d0
theorem toList_extract_whole {α : Type} (d : Array α) : (d.extract 0 d.size).toList = d.toList := by simp
theorem swp_perm {α : Type} [Inhabited α] (d : Array α) (i j : Nat) (hi : i < d.size) (hj : j < d.size) : (swp d i j).toList.Perm d.toList := by
  have h := (swp_permIn d 0 d.size i j (Nat.zero_le _) hi (Nat.zero_le _) hj (Nat.le_refl _)).2.2
  rw [toList_extract_whole] at h
  have := toList_extract_whole (swp d i j)
  rw [size_swp] at this
  rw [this] at h
  exact h
/-- What a walk wants at an exchange (K = 5, kept as a variable). -/
theorem SwW.swap {w0 W : World} {blk off K : Nat} {l : List LeafI} (S : SwW w0 blk off l W) (R : RowL w0 blk off l.length) (hK : K = 5) (i j : Nat) (hi : i < l.length) (hj : j < l.length) :
    ∃ cI cJ : List Value, cI.length = K ∧ cJ.length = K ∧
      Sem.run Try.prog (loadCellsFrom ⟨blk, off + i * K, none⟩ 0 K #[]) W.drew = .ok cI.toArray W.drew ∧
      Sem.run Try.prog (loadCellsFrom ⟨blk, off + j * K, none⟩ 0 K #[]) W.drew = .ok cJ.toArray W.drew ∧
      Sem.run Try.prog (storeCells ⟨blk, off + i * K, none⟩ cJ 0) W.drew = .ok () (W.drew.setCells blk (off + i * K) cJ) ∧
      Sem.run Try.prog (storeCells ⟨blk, off + j * K, none⟩ cI 0) (W.drew.setCells blk (off + i * K) cJ) = .ok () ((W.drew.setCells blk (off + i * K) cJ).setCells blk (off + j * K) cI) ∧
      SwW w0 blk off l ((W.drew.setCells blk (off + i * K) cJ).setCells blk (off + j * K) cI) := by
  subst hK
  obtain ⟨dk, hp, hS⟩ := S
  obtain ⟨d0, hz, R⟩ := R
  have hs : dk.size = l.length := by simpa using hp.length_eq
  have e0 : dk.size = d0.size := by omega
  exact ⟨LeafI.cells dk[i]!, LeafI.cells dk[j]!, R.hk _, R.hk _, hS.ld1 R e0 _ i (by omega), hS.ld1 R e0 _ j (by omega), hS.st1 R e0 _ i (by omega) _, hS.st2 R e0 _ i j (by omega) (by omega) _ _, swp dk i j, (swp_perm dk i j (by omega) (by omega)).trans hp, hS.swapped R i j (by omega) (by omega)⟩
theorem leafSize : ∃ K : Nat, K = 5 ∧ (∀ w, (Go.sizeOf 35).run Try.prog w = .ok K w) ∧ ∀ w, (isAgg 35).run Try.prog w = .ok true w := ⟨5, rfl, Try.sizeOf35, Try.isAgg35⟩
section
attribute [-simp] Try.isAgg35 Try.sizeOf35
set_option maxHeartbeats 4000000 in
set_option maxRecDepth 1000000 in
theorem swapRange_c {w0 w : World} {blk off cap : Nat} {l : List LeafI} (R : RowL w0 blk off l.length) (S : SwW w0 blk off l w) (hsz : l.length ≤ 1000000) (a b n : Nat) (ha : a + n ≤ l.length) (hb : b + n ≤ l.length) :
    Calls Try.prog 53 #[.slice (some ⟨blk, off, none⟩) l.length cap, .int .i64 a, .int .i64 b, .int .i64 n, .func (.func 18) #[] #[]] w (fun e w' => e = .returned (.tuple #[]) ∧ SwW w0 blk off l w') := by
  obtain ⟨K, hK, zE, aE⟩ := leafSize
  have SW := hid (fun W (S : SwW w0 blk off l W) i j hi hj => S.swap R hK i j hi hj)
  clear hK
  obtain ⟨SP, hSP⟩ : ∃ SP : World → Prop, SP = SwW w0 blk off l := ⟨_, rfl⟩
  have S0 := hid S
  rw [← hSP] at S0 SW ⊢
  clear S R hSP
  generalize l.length = N at *
  go_enter Try.func53, Try.ntmps53
  go_wp2_with fail
  go_loopg [10] n (fun k s wr => ∃ i : Nat, s = .int .i64 i ∧ i + k = n ∧ Hid (SP wr))
  case atStart => exact ⟨0, by go_num, by omega, S0⟩
  case round =>
    clear S0
    obtain ⟨i, rfl, hk, S1⟩ := hrel
    by_cases hlt : i < n
    · have hltz : (i : Int) < (n : Int) := by omega
      go_wp2_with fail
      obtain ⟨cI, cJ, nI, nJ, lI, lJ, sI, sJ, S2⟩ := SW.out wr S1.out (a + i) (b + i) (by omega) (by omega)
      replace S2 := hid S2
      have ea : ((a : Int) + (i : Int)).toNat = a + i := by omega
      have pa : (0 : Int) ≤ (a : Int) + (i : Int) := by omega
      have ba : (a : Int) + (i : Int) < (N : Int) := by omega
      have ra : IntKind.i64.wrap ((a : Int) + (i : Int)) = (a : Int) + (i : Int) := by rw [IntKind.wrap_i64]; omega
      have eb : ((b : Int) + (i : Int)).toNat = b + i := by omega
      have pb : (0 : Int) ≤ (b : Int) + (i : Int) := by omega
      have bb : (b : Int) + (i : Int) < (N : Int) := by omega
      have rb : IntKind.i64.wrap ((b : Int) + (i : Int)) = (b : Int) + (i : Int) := by rw [IntKind.wrap_i64]; omega
      clear S1
      go_wp2_with fail
      go_big_region
      clear lI lJ sI sJ
      generalize (wr.drew.setCells blk (off + (a + i) * K) cJ).setCells blk (off + (b + i) * K) cI = w2 at S2 ⊢
      go_wp2
      go_roundg (gk - 1)
      case measure => omega
      case rel => exact ⟨i + 1, by go_num, by omega, S2⟩
    · have hltz : ¬ (i : Int) < (n : Int) := by omega
      go_wp2_with fail
      go_end0
      exact ⟨rfl, S1.out⟩
end
set_option maxHeartbeats 4000000 in
set_option maxRecDepth 1000000 in
theorem rotate_c {w0 w : World} {blk off cap : Nat} {l : List LeafI} (R : RowL w0 blk off l.length) (S : SwW w0 blk off l w) (hsz : l.length ≤ 1000000) (a m b : Nat) (ham : a < m) (hmb : m < b) (hb : b ≤ l.length) :
    Calls Try.prog 41 #[.slice (some ⟨blk, off, none⟩) l.length cap, .int .i64 a, .int .i64 m, .int .i64 b, .func (.func 18) #[] #[]] w (fun e w' => e = .returned (.tuple #[]) ∧ SwW w0 blk off l w') := by
  have HC := hid (fun W (S : SwW w0 blk off l W) (x y n : Nat) (zx zy zn : Int) (ex : zx = x) (ey : zy = y) (en : zn = n) h1 h2 => by
    have h := swapRange_c (cap := cap) R S hsz x y n h1 h2
    rw [← ex, ← ey, ← en] at h; exact h)
  obtain ⟨SP, hSP⟩ : ∃ SP : World → Prop, SP = SwW w0 blk off l := ⟨_, rfl⟩
  have S0 := hid S
  rw [← hSP] at S0 HC ⊢
  clear S R hSP
  generalize l.length = N at *
  go_enter Try.func41, Try.ntmps41
  go_wp2_with fail
  go_loopg [10, 11] (b - a) (fun k s t wr => ∃ i j : Nat, s = .int .i64 i ∧ t = .int .i64 j ∧ 0 < i ∧ 0 < j ∧ a + i ≤ m ∧ m + j ≤ b ∧ i + j ≤ k ∧ Hid (SP wr))
  case atStart => exact ⟨m - a, b - m, by go_num, by go_num, by omega, by omega, by omega, by omega, by omega, S0⟩
  case round =>
    clear S0
    obtain ⟨i, j, rfl, rfl, hi, hj, him, hjb, hk, S1⟩ := hrel
    by_cases he : i = j
    · subst he
      go_wp2_with (go_at_call 53; refine (HC.out _ S1.out (m - i) m i _ _ _ (by omega) rfl rfl (by omega) (by omega)).mono ?_; rintro e w' ⟨rfl, hx⟩; have S2 := hid hx; clear hx S1)
      go_end0
      exact ⟨rfl, S2.out⟩
    · have hne : ¬ (i : Int) = (j : Int) := by omega
      by_cases hgt : j < i
      · have hgz : (j : Int) < (i : Int) := by omega
        go_wp2_with (go_at_call 53; refine (HC.out _ S1.out (m - i) m j _ _ _ (by omega) rfl rfl (by omega) (by omega)).mono ?_; rintro e w' ⟨rfl, hx⟩; have S2 := hid hx; clear hx S1)
        go_roundg (i + j - j)
        case measure => omega
        case rel => exact ⟨i - j, j, by go_num, rfl, by omega, by omega, by omega, by omega, by omega, S2⟩
      · have hgz : ¬ (j : Int) < (i : Int) := by omega
        go_wp2_with (go_at_call 53; refine (HC.out _ S1.out (m - i) (m + j - i) i _ _ _ (by omega) (by omega) rfl (by omega) (by omega)).mono ?_; rintro e w' ⟨rfl, hx⟩; have S2 := hid hx; clear hx S1)
        go_roundg (i + j - i)
        case measure => omega
        case rel => exact ⟨i, j - i, rfl, by go_num, by omega, by omega, by omega, by omega, by omega, S2⟩
end Go.Proofs.Ytjbpdepeimgocaa
