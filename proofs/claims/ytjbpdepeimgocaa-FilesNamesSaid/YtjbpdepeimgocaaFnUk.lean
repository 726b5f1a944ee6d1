/-
  slices' symMerge at leaves, whole.
-/
import Derived.Test.YtjbpdepeimgocaaFnTk
namespace Go.Proofs.Ytjbpdepeimgocaa
set_option linter.unusedSimpArgs false
set_option linter.unusedVariables false
open Go.RowKit Go.Sort Go.Lib Go.Shelf
section
attribute [-simp] Try.isAgg35 Try.sizeOf35
theorem three (x y z : Nat) : (decide ((x : Int) < (y : Int)) = true ∧ decide ((y : Int) < (z : Int)) = true ∧ x < y ∧ y < z) ∨ (decide ((x : Int) < (y : Int)) = true ∧ decide ((y : Int) < (z : Int)) = false ∧ x < y ∧ z ≤ y) ∨ (decide ((x : Int) < (y : Int)) = false ∧ y ≤ x) := by
  rw [decide_eq_true_iff, decide_eq_true_iff, decide_eq_false_iff_not, decide_eq_false_iff_not]
  omega
/-- What symMerge does between two places, up to b - a = q. -/
def SymUp (w0 : World) (blk off cap : Nat) (l : List LeafI) (q : Nat) : Prop := ∀ (w : World) (_ : SwW w0 blk off l w) (a m b : Nat) (_ : b - a ≤ q) (_ : a < m) (_ : m < b) (_ : b ≤ l.length),
    Calls Try.prog 36 #[.slice (some ⟨blk, off, none⟩) l.length cap, .int .i64 a, .int .i64 m, .int .i64 b, .func (.func 18) #[] #[]] w (fun e w' => e = .returned (.tuple #[]) ∧ SwW w0 blk off l w')
set_option maxHeartbeats 16000000 in
set_option maxRecDepth 1000000 in
theorem symGen_c {w0 w : World} {blk off cap : Nat} {l : List LeafI} (R : RowL w0 blk off l.length) (hsz : l.length ≤ 1000000) (q : Nat) (IH : SymUp w0 blk off cap l q) (S : SwW w0 blk off l w) (a m b : Nat) (hq : b - a ≤ q + 1) (ham : a < m) (hmb : m < b) (hb : b ≤ l.length) (c1 : ¬ m = a + 1) (c2 : ¬ b = m + 1) :
    Calls Try.prog 36 #[.slice (some ⟨blk, off, none⟩) l.length cap, .int .i64 a, .int .i64 m, .int .i64 b, .func (.func 18) #[] #[]] w (fun e w' => e = .returned (.tuple #[]) ∧ SwW w0 blk off l w') := by
  have HI := hid (fun W (S : SwW w0 blk off l W) (x y z : Nat) (zx zy zz : Int) (ex : zx = x) (ey : zy = y) (ez : zz = z) h1 h2 h3 h4 => by
    have h := IH W S x y z h1 h2 h3 h4
    rw [← ex, ← ey, ← ez] at h; exact h)
  have HR := hid (fun W (S : SwW w0 blk off l W) (x y z : Nat) (zx zy zz : Int) (ex : zx = x) (ey : zy = y) (ez : zz = z) h1 h2 h3 => by
    have h := rotate_c (cap := cap) R S hsz x y z h1 h2 h3
    rw [← ex, ← ey, ← ez] at h; exact h)
  clear IH
  have mixed : Try.prog.follows .mixedOrders = true := by kernel_rfl
  obtain ⟨K, hK, zE, aE⟩ := leafSize
  have SL := hid (fun W (S : SwW w0 blk off l W) i j hi hj => S.look R hK i j hi hj)
  clear hK
  obtain ⟨SP, hSP⟩ : ∃ SP : World → Prop, SP = SwW w0 blk off l := ⟨_, rfl⟩
  have S0 := hid S
  rw [← hSP] at S0 SL HI HR ⊢
  clear S R hSP
  generalize l.length = N at *
  have d0 : ((m : Int) - (a : Int) == 1) = false := by simp; omega
  have d1 : ((b : Int) - (m : Int) == 1) = false := by simp; omega
  obtain ⟨mid, hmid⟩ : ∃ h, h = (a + b) / 2 := ⟨_, rfl⟩
  have hmz : ((a : Int) + (b : Int)) / 2 = (mid : Int) := by omega
  have hm1 : a + b ≤ 2 * mid + 1 := by omega
  have hm2 : 2 * mid ≤ a + b := by omega
  have hab : a + 4 ≤ b := by omega
  clear hmid c1 c2
  by_cases hgt : mid < m
  · have dg : decide ((mid : Int) < (m : Int)) = true := by simp; omega
    have hs0 : ∃ s0, s0 = mid + m - b := ⟨_, rfl⟩
    obtain ⟨s0, hs0⟩ := hs0
    have hs1 : s0 + b = mid + m := by omega
    obtain ⟨r0, hr0⟩ : ∃ r0, r0 = mid := ⟨_, rfl⟩
    clear hs0
    have HS := hid hs1
    go_enter Try.func36, Try.ntmps36
    go_wp2_with fail
    go_loopg [20, 21] (r0 - s0) (fun k s t wr => ∃ i j : Nat, s = .int .i64 i ∧ t = .int .i64 j ∧ s0 ≤ i ∧ i ≤ j ∧ j ≤ r0 ∧ j - i ≤ k ∧ Hid (SP wr))
    case atStart => exact ⟨s0, r0, by go_num, by go_num, by omega, by omega, by omega, by omega, S0⟩
    case round =>
      clear S0
      obtain ⟨i, j, rfl, rfl, hmi, hij, hjb, hk, S1⟩ := hrel
      by_cases hlt : i < j
      · have hltz : (i : Int) < (j : Int) := by omega
        obtain ⟨h, hh⟩ : ∃ h, h = (i + j) / 2 := ⟨_, rfl⟩
        have hz : ((i : Int) + (j : Int)) / 2 = (h : Int) := by omega
        have hih : i ≤ h := by omega
        have hhj : h < j := by omega
        clear hh
        obtain ⟨p, hp⟩ : ∃ p, p = mid + m - 1 - h := ⟨_, rfl⟩
        have hpz : (mid : Int) + (m : Int) - 1 - (h : Int) = (p : Int) := by omega
        have hpb : p < N := by omega
        clear hp
        obtain ⟨cI, cJ, z, nI, nJ, lI, lJ, hC, hG⟩ := SL.out wr S1.out (p) (h) (by omega) (by omega)
        have HG := hid hG
        clear hG
        have ea : ((p : Int)).toNat = p := by omega
        have pa : (0 : Int) ≤ (p : Int) := by omega
        have ba : (p : Int) < (N : Int) := by omega
        have ra : IntKind.i64.wrap ((p : Int)) = (p : Int) := by rw [IntKind.wrap_i64]; omega
        have eb : ((h : Int)).toNat = h := by omega
        have pb : (0 : Int) ≤ (h : Int) := by omega
        have bb : (h : Int) < (N : Int) := by omega
        have rb : IntKind.i64.wrap ((h : Int)) = (h : Int) := by rw [IntKind.wrap_i64]; omega
        clear S1
        by_cases hv : z < 0
        · have dv : decide (z < 0) = true := decide_eq_true hv
          go_wp2_with fail
          go_quiet_grown (first | (go_at_call 18; refine Calls.grown_of (hC _ _)))
          clear lI lJ hC
          have S3 := hid (HG.out nq osq)
          clear HG
          generalize grow (wr.drewN nq) osq = w2 at S3 ⊢
          go_wp2_with fail
          go_roundg (h - i)
          case measure => omega
          case rel => exact ⟨i, h, rfl, by go_num, by omega, by omega, by omega, by omega, S3⟩
        · have dv : decide (z < 0) = false := decide_eq_false hv
          go_wp2_with fail
          go_quiet_grown (first | (go_at_call 18; refine Calls.grown_of (hC _ _)))
          clear lI lJ hC
          have S3 := hid (HG.out nq osq)
          clear HG
          generalize grow (wr.drewN nq) osq = w2 at S3 ⊢
          go_wp2_with fail
          go_roundg (j - (h + 1))
          case measure => omega
          case rel => exact ⟨h + 1, j, by go_num, rfl, by omega, by omega, by omega, by omega, S3⟩
      · have hltz : ¬ (i : Int) < (j : Int) := by omega
        clear hlt hk
        obtain ⟨e, he⟩ : ∃ e, e = mid + m - i := ⟨_, rfl⟩
        have hez : (mid : Int) + (m : Int) - (i : Int) = (e : Int) := by omega
        have heb : e ≤ b := by omega
        have hme : mid ≤ e := by omega
        clear he
        have Q1 : (decide ((i : Int) < (m : Int)) = true ∧ decide ((m : Int) < (e : Int)) = true ∧ i < m ∧ m < e) ∨ (decide ((i : Int) < (m : Int)) = true ∧ decide ((m : Int) < (e : Int)) = false ∧ i < m ∧ e ≤ m) ∨ (decide ((i : Int) < (m : Int)) = false ∧ m ≤ i) := three _ _ _
        have Q2 : (decide ((a : Int) < (i : Int)) = true ∧ decide ((i : Int) < (mid : Int)) = true ∧ a < i ∧ i < mid) ∨ (decide ((a : Int) < (i : Int)) = true ∧ decide ((i : Int) < (mid : Int)) = false ∧ a < i ∧ mid ≤ i) ∨ (decide ((a : Int) < (i : Int)) = false ∧ i ≤ a) := three _ _ _
        have Q3 : (decide ((mid : Int) < (e : Int)) = true ∧ decide ((e : Int) < (b : Int)) = true ∧ mid < e ∧ e < b) ∨ (decide ((mid : Int) < (e : Int)) = true ∧ decide ((e : Int) < (b : Int)) = false ∧ mid < e ∧ b ≤ e) ∨ (decide ((mid : Int) < (e : Int)) = false ∧ e ≤ mid) := three _ _ _
        rcases Q1 with ⟨x1, x2, x3, x4⟩ | ⟨x1, x2, x3, x4⟩ | ⟨x1, x3⟩ <;> rcases Q2 with ⟨y1, y2, y3, y4⟩ | ⟨y1, y2, y3, y4⟩ | ⟨y1, y3⟩ <;> rcases Q3 with ⟨z1, z2, z3, z4⟩ | ⟨z1, z2, z3, z4⟩ | ⟨z1, z3⟩ <;> first
          | (exfalso; omega)
          | (go_wp2_with (first | (go_at_call 41; refine (HR.out _ S1.out i m e _ _ _ (by omega) (by omega) (by omega) (by omega) (by omega) (by omega)).mono ?_; rintro e' w' ⟨rfl, hx⟩; clear S1; have S1 := hid hx; clear hx) | (go_at_call 36; refine (HI.out _ S1.out a i mid _ _ _ (by omega) (by omega) (by omega) (by omega) (by omega) (by omega) (by omega)).mono ?_; rintro e' w' ⟨rfl, hx⟩; clear S1; have S1 := hid hx; clear hx) | (go_at_call 36; refine (HI.out _ S1.out mid e b _ _ _ (by omega) (by omega) (by omega) (by omega) (by omega) (by omega) (by omega)).mono ?_; rintro e' w' ⟨rfl, hx⟩; clear S1; have S1 := hid hx; clear hx))
             go_end0
             exact ⟨rfl, S1.out⟩)
  · have dg : decide ((mid : Int) < (m : Int)) = false := by simp; omega
    obtain ⟨s0, hs0⟩ : ∃ s0, s0 = a := ⟨_, rfl⟩
    obtain ⟨r0, hr0⟩ : ∃ r0, r0 = m := ⟨_, rfl⟩
    go_enter Try.func36, Try.ntmps36
    go_wp2_with fail
    go_loopg [20, 21] (r0 - s0) (fun k s t wr => ∃ i j : Nat, s = .int .i64 i ∧ t = .int .i64 j ∧ s0 ≤ i ∧ i ≤ j ∧ j ≤ r0 ∧ j - i ≤ k ∧ Hid (SP wr))
    case atStart => exact ⟨s0, r0, by go_num, by go_num, by omega, by omega, by omega, by omega, S0⟩
    case round =>
      clear S0
      obtain ⟨i, j, rfl, rfl, hmi, hij, hjb, hk, S1⟩ := hrel
      by_cases hlt : i < j
      · have hltz : (i : Int) < (j : Int) := by omega
        obtain ⟨h, hh⟩ : ∃ h, h = (i + j) / 2 := ⟨_, rfl⟩
        have hz : ((i : Int) + (j : Int)) / 2 = (h : Int) := by omega
        have hih : i ≤ h := by omega
        have hhj : h < j := by omega
        clear hh
        obtain ⟨p, hp⟩ : ∃ p, p = mid + m - 1 - h := ⟨_, rfl⟩
        have hpz : (mid : Int) + (m : Int) - 1 - (h : Int) = (p : Int) := by omega
        have hpb : p < N := by omega
        clear hp
        obtain ⟨cI, cJ, z, nI, nJ, lI, lJ, hC, hG⟩ := SL.out wr S1.out (p) (h) (by omega) (by omega)
        have HG := hid hG
        clear hG
        have ea : ((p : Int)).toNat = p := by omega
        have pa : (0 : Int) ≤ (p : Int) := by omega
        have ba : (p : Int) < (N : Int) := by omega
        have ra : IntKind.i64.wrap ((p : Int)) = (p : Int) := by rw [IntKind.wrap_i64]; omega
        have eb : ((h : Int)).toNat = h := by omega
        have pb : (0 : Int) ≤ (h : Int) := by omega
        have bb : (h : Int) < (N : Int) := by omega
        have rb : IntKind.i64.wrap ((h : Int)) = (h : Int) := by rw [IntKind.wrap_i64]; omega
        clear S1
        by_cases hv : z < 0
        · have dv : decide (z < 0) = true := decide_eq_true hv
          go_wp2_with fail
          go_quiet_grown (first | (go_at_call 18; refine Calls.grown_of (hC _ _)))
          clear lI lJ hC
          have S3 := hid (HG.out nq osq)
          clear HG
          generalize grow (wr.drewN nq) osq = w2 at S3 ⊢
          go_wp2_with fail
          go_roundg (h - i)
          case measure => omega
          case rel => exact ⟨i, h, rfl, by go_num, by omega, by omega, by omega, by omega, S3⟩
        · have dv : decide (z < 0) = false := decide_eq_false hv
          go_wp2_with fail
          go_quiet_grown (first | (go_at_call 18; refine Calls.grown_of (hC _ _)))
          clear lI lJ hC
          have S3 := hid (HG.out nq osq)
          clear HG
          generalize grow (wr.drewN nq) osq = w2 at S3 ⊢
          go_wp2_with fail
          go_roundg (j - (h + 1))
          case measure => omega
          case rel => exact ⟨h + 1, j, by go_num, rfl, by omega, by omega, by omega, by omega, S3⟩
      · have hltz : ¬ (i : Int) < (j : Int) := by omega
        clear hlt hk
        obtain ⟨e, he⟩ : ∃ e, e = mid + m - i := ⟨_, rfl⟩
        have hez : (mid : Int) + (m : Int) - (i : Int) = (e : Int) := by omega
        have heb : e ≤ b := by omega
        have hme : mid ≤ e := by omega
        clear he
        have Q1 : (decide ((i : Int) < (m : Int)) = true ∧ decide ((m : Int) < (e : Int)) = true ∧ i < m ∧ m < e) ∨ (decide ((i : Int) < (m : Int)) = true ∧ decide ((m : Int) < (e : Int)) = false ∧ i < m ∧ e ≤ m) ∨ (decide ((i : Int) < (m : Int)) = false ∧ m ≤ i) := three _ _ _
        have Q2 : (decide ((a : Int) < (i : Int)) = true ∧ decide ((i : Int) < (mid : Int)) = true ∧ a < i ∧ i < mid) ∨ (decide ((a : Int) < (i : Int)) = true ∧ decide ((i : Int) < (mid : Int)) = false ∧ a < i ∧ mid ≤ i) ∨ (decide ((a : Int) < (i : Int)) = false ∧ i ≤ a) := three _ _ _
        have Q3 : (decide ((mid : Int) < (e : Int)) = true ∧ decide ((e : Int) < (b : Int)) = true ∧ mid < e ∧ e < b) ∨ (decide ((mid : Int) < (e : Int)) = true ∧ decide ((e : Int) < (b : Int)) = false ∧ mid < e ∧ b ≤ e) ∨ (decide ((mid : Int) < (e : Int)) = false ∧ e ≤ mid) := three _ _ _
        rcases Q1 with ⟨x1, x2, x3, x4⟩ | ⟨x1, x2, x3, x4⟩ | ⟨x1, x3⟩ <;> rcases Q2 with ⟨y1, y2, y3, y4⟩ | ⟨y1, y2, y3, y4⟩ | ⟨y1, y3⟩ <;> rcases Q3 with ⟨z1, z2, z3, z4⟩ | ⟨z1, z2, z3, z4⟩ | ⟨z1, z3⟩ <;> first
          | (exfalso; omega)
          | (go_wp2_with (first | (go_at_call 41; refine (HR.out _ S1.out i m e _ _ _ (by omega) (by omega) (by omega) (by omega) (by omega) (by omega)).mono ?_; rintro e' w' ⟨rfl, hx⟩; clear S1; have S1 := hid hx; clear hx) | (go_at_call 36; refine (HI.out _ S1.out a i mid _ _ _ (by omega) (by omega) (by omega) (by omega) (by omega) (by omega) (by omega)).mono ?_; rintro e' w' ⟨rfl, hx⟩; clear S1; have S1 := hid hx; clear hx) | (go_at_call 36; refine (HI.out _ S1.out mid e b _ _ _ (by omega) (by omega) (by omega) (by omega) (by omega) (by omega) (by omega)).mono ?_; rintro e' w' ⟨rfl, hx⟩; clear S1; have S1 := hid hx; clear hx))
             go_end0
             exact ⟨rfl, S1.out⟩)
theorem symAll_c {w0 : World} {blk off cap : Nat} {l : List LeafI} (R : RowL w0 blk off l.length) (hsz : l.length ≤ 1000000) (q : Nat) : SymUp w0 blk off cap l q := by
  induction q with
  | zero => intro w S a m b hq ham hmb hb; omega
  | succ q IH =>
    intro w S a m b hq ham hmb hb
    by_cases c1 : m = a + 1
    · exact symOne_c R S hsz a m b c1 hmb hb
    by_cases c2 : b = m + 1
    · exact symTwo_c R S hsz a m b (by omega) c2 hb
    exact symGen_c R hsz q IH S a m b hq ham hmb hb c1 c2
end
end Go.Proofs.Ytjbpdepeimgocaa
