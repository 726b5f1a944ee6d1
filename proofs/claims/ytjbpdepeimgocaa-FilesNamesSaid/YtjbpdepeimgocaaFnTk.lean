/-
  slices' symMerge at leaves: what lies there afterwards is a permutation.
-/
import Derived.Test.YtjbpdepeimgocaaFnSk
namespace Go.Proofs.Ytjbpdepeimgocaa
set_option linter.unusedSimpArgs false
set_option linter.unusedVariables false
open Go.RowKit Go.Sort Go.Lib Go.Shelf

/-- What a walk wants at a comparison of two leaves of the row. -/
theorem SwW.look {w0 W : World} {blk off K : Nat} {l : List LeafI} (S : SwW w0 blk off l W) (R : RowL w0 blk off l.length) (hK : K = 5) (i j : Nat) (hi : i < l.length) (hj : j < l.length) :
    ∃ (cI cJ : List Value) (z : Int), cI.length = K ∧ cJ.length = K ∧
      (∀ n os, Sem.run Try.prog (loadCellsFrom ⟨blk, off + i * K, none⟩ 0 K #[]) (grow (W.drewN n) os) = .ok cI.toArray (grow (W.drewN n) os)) ∧
      (∀ n os, Sem.run Try.prog (loadCellsFrom ⟨blk, off + j * K, none⟩ 0 K #[]) (grow (W.drewN n) os) = .ok cJ.toArray (grow (W.drewN n) os)) ∧
      (∀ n os, Calls Try.prog 18 #[.agg cI.toArray, .agg cJ.toArray] (grow (W.drewN n) os) fun e w' => e = .returned (.int .i64 z) ∧ ∃ q os', w' = grow ((grow (W.drewN n) os).drewN q) os') ∧
      ∀ n os, SwW w0 blk off l (grow (W.drewN n) os) := by
  subst hK
  obtain ⟨dk, hp, hS⟩ := S
  obtain ⟨d0, hz, R⟩ := R
  have hs : dk.size = l.length := by simpa using hp.length_eq
  have e0 : dk.size = d0.size := by omega
  exact ⟨LeafI.cells dk[i]!, LeafI.cells dk[j]!, D.cmpL dk[i]! dk[j]!, R.hk _, R.hk _, fun n os => hS.ld R e0 _ i (by omega) n os, fun n os => hS.ld R e0 _ j (by omega) n os, fun n os => D.leaf2_g _ _ _, fun n os => ⟨dk, hp, hS.grown n os⟩⟩
section
attribute [-simp] Try.isAgg35 Try.sizeOf35
set_option maxHeartbeats 4000000 in
set_option maxRecDepth 1000000 in
theorem symOne_c {w0 w : World} {blk off cap : Nat} {l : List LeafI} (R : RowL w0 blk off l.length) (S : SwW w0 blk off l w) (hsz : l.length ≤ 1000000) (a m b : Nat) (ham : m = a + 1) (hmb : m < b) (hb : b ≤ l.length) :
    Calls Try.prog 36 #[.slice (some ⟨blk, off, none⟩) l.length cap, .int .i64 a, .int .i64 m, .int .i64 b, .func (.func 18) #[] #[]] w (fun e w' => e = .returned (.tuple #[]) ∧ SwW w0 blk off l w') := by
  have mixed : Try.prog.follows .mixedOrders = true := by kernel_rfl
  obtain ⟨K, hK, zE, aE⟩ := leafSize
  have SW := hid (fun W (S : SwW w0 blk off l W) i j hi hj => S.swap R hK i j hi hj)
  have SL := hid (fun W (S : SwW w0 blk off l W) i j hi hj => S.look R hK i j hi hj)
  clear hK
  obtain ⟨SP, hSP⟩ : ∃ SP : World → Prop, SP = SwW w0 blk off l := ⟨_, rfl⟩
  have S0 := hid S
  rw [← hSP] at S0 SW SL ⊢
  clear S R hSP
  generalize l.length = N at *
  have e0 : (m : Int) - (a : Int) = 1 := by omega
  have hal : a < m := by omega
  clear ham
  go_enter Try.func36, Try.ntmps36
  go_wp2_with fail
  go_loopg [10, 11] (b - m) (fun k s t wr => ∃ i j : Nat, s = .int .i64 i ∧ t = .int .i64 j ∧ m ≤ i ∧ i ≤ j ∧ j ≤ b ∧ j - i ≤ k ∧ Hid (SP wr))
  case atStart => exact ⟨m, b, by go_num, by go_num, by omega, by omega, by omega, by omega, S0⟩
  case round =>
    clear S0
    obtain ⟨i, j, rfl, rfl, hmi, hij, hjb, hk, S1⟩ := hrel
    by_cases hlt : i < j
    · have hltz : (i : Int) < (j : Int) := by omega
      obtain ⟨h, hh⟩ : ∃ h, h = (i + j) / 2 := ⟨_, rfl⟩
      have hz : ((i : Int) + (j : Int)) / 2 = (h : Int) := by omega
      have hih : i ≤ h := by omega
      have hhj : h < j := by omega
      clear hh
      obtain ⟨cI, cJ, z, nI, nJ, lI, lJ, hC, hG⟩ := SL.out wr S1.out (h) (a) (by omega) (by omega)
      have HG := hid hG
      clear hG
      have ea : ((h : Int)).toNat = h := by omega
      have pa : (0 : Int) ≤ (h : Int) := by omega
      have ba : (h : Int) < (N : Int) := by omega
      have ra : IntKind.i64.wrap ((h : Int)) = (h : Int) := by rw [IntKind.wrap_i64]; omega
      have eb : ((a : Int)).toNat = a := by omega
      have pb : (0 : Int) ≤ (a : Int) := by omega
      have bb : (a : Int) < (N : Int) := by omega
      have rb : IntKind.i64.wrap ((a : Int)) = (a : Int) := by rw [IntKind.wrap_i64]; omega
      clear S1
      by_cases hv : z < 0
      · go_wp2_with fail
        go_quiet_grown (first | (go_at_call 18; refine Calls.grown_of (hC _ _)))
        clear lI lJ hC
        have S3 := hid (HG.out nq osq)
        clear HG
        generalize grow (wr.drewN nq) osq = w2 at S3 ⊢
        go_wp2_with fail
        go_roundg (j - (h + 1))
        case measure => omega
        case rel => exact ⟨h + 1, j, by go_num, rfl, by omega, by omega, by omega, by omega, S3⟩
      · go_wp2_with fail
        go_quiet_grown (first | (go_at_call 18; refine Calls.grown_of (hC _ _)))
        clear lI lJ hC
        have S3 := hid (HG.out nq osq)
        clear HG
        generalize grow (wr.drewN nq) osq = w2 at S3 ⊢
        go_wp2_with fail
        go_roundg (h - i)
        case measure => omega
        case rel => exact ⟨i, h, rfl, by go_num, by omega, by omega, by omega, by omega, S3⟩
    · have hltz : ¬ (i : Int) < (j : Int) := by omega
      clear hlt hk
      go_wp2_with fail
      go_loopg [13] (i - a) (fun k s wr => ∃ q : Nat, s = .int .i64 q ∧ a ≤ q ∧ i - q ≤ k ∧ Hid (SP wr))
      case atStart => exact ⟨a, rfl, by omega, by omega, S1⟩
      case round =>
        clear S1
        obtain ⟨q, rfl, haq, hk, S1⟩ := hrel
        by_cases hlt : q + 1 < i
        · have hltz : (q : Int) < (i : Int) - 1 := by omega
          go_wp2_with fail
          obtain ⟨cI, cJ, nI, nJ, lI, lJ, sI, sJ, S2⟩ := SW.out wr S1.out (q) (q + 1) (by omega) (by omega)
          replace S2 := hid S2
          have ea : ((q : Int)).toNat = q := by omega
          have pa : (0 : Int) ≤ (q : Int) := by omega
          have ba : (q : Int) < (N : Int) := by omega
          have ra : IntKind.i64.wrap ((q : Int)) = (q : Int) := by rw [IntKind.wrap_i64]; omega
          have eb : ((q : Int) + 1).toNat = q + 1 := by omega
          have pb : (0 : Int) ≤ (q : Int) + 1 := by omega
          have bb : (q : Int) + 1 < (N : Int) := by omega
          have rb : IntKind.i64.wrap ((q : Int) + 1) = (q : Int) + 1 := by rw [IntKind.wrap_i64]; omega
          clear S1
          go_wp2_with fail
          go_big_region
          clear lI lJ sI sJ
          generalize (wr.drew.setCells blk (off + (q) * K) cJ).setCells blk (off + (q + 1) * K) cI = w2 at S2 ⊢
          go_wp2_with fail
          go_roundg (i - (q + 1))
          case measure => omega
          case rel => exact ⟨q + 1, by go_num, by omega, by omega, S2⟩
        · have hltz : ¬ (q : Int) < (i : Int) - 1 := by omega
          go_wp2_with fail
          (try simp only [Exit.inBlock, Exit.then])
          refine bodyPost_ret (results_none rfl _ _ _) rfl ?_
          exact ⟨rfl, S1.out⟩
set_option maxHeartbeats 4000000 in
set_option maxRecDepth 1000000 in
theorem symTwo_c {w0 w : World} {blk off cap : Nat} {l : List LeafI} (R : RowL w0 blk off l.length) (S : SwW w0 blk off l w) (hsz : l.length ≤ 1000000) (a m b : Nat) (ham : a + 1 < m) (hmb : b = m + 1) (hb : b ≤ l.length) :
    Calls Try.prog 36 #[.slice (some ⟨blk, off, none⟩) l.length cap, .int .i64 a, .int .i64 m, .int .i64 b, .func (.func 18) #[] #[]] w (fun e w' => e = .returned (.tuple #[]) ∧ SwW w0 blk off l w') := by
  have mixed : Try.prog.follows .mixedOrders = true := by kernel_rfl
  obtain ⟨K, hK, zE, aE⟩ := leafSize
  have SW := hid (fun W (S : SwW w0 blk off l W) i j hi hj => S.swap R hK i j hi hj)
  have SL := hid (fun W (S : SwW w0 blk off l W) i j hi hj => S.look R hK i j hi hj)
  clear hK
  obtain ⟨SP, hSP⟩ : ∃ SP : World → Prop, SP = SwW w0 blk off l := ⟨_, rfl⟩
  have S0 := hid S
  rw [← hSP] at S0 SW SL ⊢
  clear S R hSP
  generalize l.length = N at *
  have d0 : ((m : Int) - (a : Int) == 1) = false := by simp; omega
  have e1 : (b : Int) - (m : Int) = 1 := by omega
  have hal : m < b := by omega
  have ham : a < m := by omega
  clear hmb
  go_enter Try.func36, Try.ntmps36
  go_wp2_with fail
  go_loopg [14, 15] (m - a) (fun k s t wr => ∃ i j : Nat, s = .int .i64 i ∧ t = .int .i64 j ∧ a ≤ i ∧ i ≤ j ∧ j ≤ m ∧ j - i ≤ k ∧ Hid (SP wr))
  case atStart => exact ⟨a, m, by go_num, by go_num, by omega, by omega, by omega, by omega, S0⟩
  case round =>
    clear S0
    obtain ⟨i, j, rfl, rfl, hmi, hij, hjb, hk, S1⟩ := hrel
    by_cases hlt : i < j
    · have hltz : (i : Int) < (j : Int) := by omega
      obtain ⟨h, hh⟩ : ∃ h, h = (i + j) / 2 := ⟨_, rfl⟩
      have hz : ((i : Int) + (j : Int)) / 2 = (h : Int) := by omega
      have hih : i ≤ h := by omega
      have hhj : h < j := by omega
      clear hh
      obtain ⟨cI, cJ, z, nI, nJ, lI, lJ, hC, hG⟩ := SL.out wr S1.out (m) (h) (by omega) (by omega)
      have HG := hid hG
      clear hG
      have ea : ((m : Int)).toNat = m := by omega
      have pa : (0 : Int) ≤ (m : Int) := by omega
      have ba : (m : Int) < (N : Int) := by omega
      have ra : IntKind.i64.wrap ((m : Int)) = (m : Int) := by rw [IntKind.wrap_i64]; omega
      have eb : ((h : Int)).toNat = h := by omega
      have pb : (0 : Int) ≤ (h : Int) := by omega
      have bb : (h : Int) < (N : Int) := by omega
      have rb : IntKind.i64.wrap ((h : Int)) = (h : Int) := by rw [IntKind.wrap_i64]; omega
      clear S1
      by_cases hv : z < 0
      · have dv : decide (z < 0) = true := decide_eq_true hv
        go_wp2_with fail
        go_quiet_grown (first | (go_at_call 18; refine Calls.grown_of (hC _ _)))
        clear lI lJ hC
        have S3 := hid (HG.out nq osq)
        clear HG
        generalize grow (wr.drewN nq) osq = w2 at S3 ⊢
        go_wp2_with fail
        go_roundg (h - i)
        case measure => omega
        case rel => exact ⟨i, h, rfl, by go_num, by omega, by omega, by omega, by omega, S3⟩
      · have dv : decide (z < 0) = false := decide_eq_false hv
        go_wp2_with fail
        go_quiet_grown (first | (go_at_call 18; refine Calls.grown_of (hC _ _)))
        clear lI lJ hC
        have S3 := hid (HG.out nq osq)
        clear HG
        generalize grow (wr.drewN nq) osq = w2 at S3 ⊢
        go_wp2_with fail
        go_roundg (j - (h + 1))
        case measure => omega
        case rel => exact ⟨h + 1, j, by go_num, rfl, by omega, by omega, by omega, by omega, S3⟩
    · have hltz : ¬ (i : Int) < (j : Int) := by omega
      clear hlt hk
      go_wp2_with fail
      go_loopg [17] (m - i) (fun k s wr => ∃ q : Nat, s = .int .i64 q ∧ i ≤ q ∧ q ≤ m ∧ q - i ≤ k ∧ Hid (SP wr))
      case atStart => exact ⟨m, rfl, by omega, by omega, by omega, S1⟩
      case round =>
        clear S1
        obtain ⟨q, rfl, haq, hqm, hk, S1⟩ := hrel
        by_cases hlt : i < q
        · obtain ⟨p, rfl⟩ : ∃ p, q = p + 1 := ⟨q - 1, by omega⟩
          have hltz : (i : Int) < (p : Int) + 1 := by omega
          have hltz' : (i : Int) < ((p + 1 : Nat) : Int) := by omega
          go_wp2_with fail
          obtain ⟨cI, cJ, nI, nJ, lI, lJ, sI, sJ, S2⟩ := SW.out wr S1.out (p + 1) (p) (by omega) (by omega)
          replace S2 := hid S2
          have ea : ((p : Int) + 1).toNat = p + 1 := by omega
          have pa : (0 : Int) ≤ (p : Int) + 1 := by omega
          have ba : (p : Int) + 1 < (N : Int) := by omega
          have ra : IntKind.i64.wrap ((p : Int) + 1) = (p : Int) + 1 := by rw [IntKind.wrap_i64]; omega
          have eb : ((p : Int)).toNat = p := by omega
          have pb : (0 : Int) ≤ (p : Int) := by omega
          have bb : (p : Int) < (N : Int) := by omega
          have rb : IntKind.i64.wrap ((p : Int)) = (p : Int) := by rw [IntKind.wrap_i64]; omega
          clear S1
          go_wp2_with fail
          go_big_region
          clear lI lJ sI sJ
          generalize (wr.drew.setCells blk (off + (p + 1) * K) cJ).setCells blk (off + (p) * K) cI = w2 at S2 ⊢
          go_wp2_with fail
          go_roundg (p - i)
          case measure => omega
          case rel => exact ⟨p, by go_num, by omega, by omega, by omega, S2⟩
        · have hltz : ¬ (i : Int) < (q : Int) := by omega
          go_wp2_with fail
          (try simp only [Exit.inBlock, Exit.then])
          refine bodyPost_ret (results_none rfl _ _ _) rfl ?_
          exact ⟨rfl, S1.out⟩
end
end Go.Proofs.Ytjbpdepeimgocaa
