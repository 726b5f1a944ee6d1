/-
  slices.SortStableFunc at leaves, up to 40: what lies there afterwards is a permutation.
-/
import Derived.Test.YtjbpdepeimgocaaFnUk
namespace Go.Proofs.Ytjbpdepeimgocaa
set_option linter.unusedSimpArgs false
set_option linter.unusedVariables false
open Go.RowKit Go.Sort Go.Lib Go.Shelf
/-- A row of leaves, out of its typed row. -/
theorem symRow_c {w : World} {B : Nat} {v : Value} {l : List LeafI} (h : w.ownsRow B 35 5 v l.length (l.map LeafI.cells).flatten) (hl : l.length ≤ 1000000) (a m b : Nat) (ham : a < m) (hmb : m < b) (hb : b ≤ l.length) :
    Calls Try.prog 36 #[v, .int .i64 a, .int .i64 m, .int .i64 b, .func (.func 18) #[] #[]] w (Swaps w B v l (fun _ => True)) := by
  rcases h.2 with ⟨rfl, h0⟩ | ⟨g, cap, cs, rfl, hb', hg, h2, h3, h4, h5⟩
  · omega
  · have hB : Blk w g 35 cs := hg
    have ht : cs.toList.take (l.toArray.size * 5) = (l.toArray.toList.map LeafI.cells).flatten := by simpa using h5
    have hH := holdsK_of leaf_coded.len hB ht
    have hsz : l.toArray.size * 5 ≤ cs.size := by
      rw [h4]
      exact Nat.mul_le_mul_right _ (by simpa using h2)
    have R : RowL w g 0 l.length := ⟨l.toArray, by simp, leaf_coded.len, leaf_coded.one, hH, hB.lt⟩
    have S : SwW w g 0 l w := ⟨l.toArray, by simp, SWK.start hH⟩
    have hcon := symAll_c (cap := cap) R hl (b - a) w S a m b (Nat.le_refl _) ham hmb hb
    refine hcon.mono fun en w' ⟨he, d', hp, n, os, hw⟩ => ?_
    subst hw
    have hsize : d'.size = l.length := by simpa using hp.length_eq
    obtain ⟨cs', hB', hz', ht'⟩ := sortWorld_blk (enc := LeafI.cells) leaf_coded.len hB n d' os (by rw [hsize]; simpa using hsz)
    refine ⟨he, (sortWorld_keep w g n d' os hB.lt).mono fun q hq => by subst hq; rfl, d'.toList, hp, trivial, ?_⟩
    refine ⟨enc_len leaf_coded.len _, .inr ⟨g, cap, cs', ?_, hb', hB', ?_, h3, by rw [hz', h4], ?_⟩⟩
    · rw [show d'.toList.length = l.length by simpa using hsize]
    · rw [show d'.toList.length = l.length by simpa using hsize]; exact h2
    · rw [show d'.toList.length = d'.size from Array.length_toList]; exact ht'
set_option maxRecDepth 1000000 in
set_option maxHeartbeats 4000000 in
theorem stab_c {w : World} {B : Nat} {v : Value} {l : List LeafI} (h : w.ownsRow B 35 5 v l.length (l.map LeafI.cells).flatten) (hl : l.length ≤ 1000000) :
    Calls Try.prog 28 #[v, .int .i64 l.length, .func (.func 18) #[] #[]] w (Swaps w B v l (fun _ => True)) := by
  obtain ⟨SP, hSP⟩ : ∃ SP : World → Prop, SP = fun W => Keep (fun q => v.ownBlock = some q) w W ∧ ∃ l' : List LeafI, l'.Perm l ∧ W.ownsRow B 35 5 v l'.length (l'.map LeafI.cells).flatten := ⟨_, rfl⟩
  have S0 : Hid (SP w) := by rw [hSP]; exact ⟨Keep.refl _ _, l, List.Perm.refl _, h⟩
  have HI := hid (fun W (S : SP W) (x y : Nat) (zx zy : Int) (ex : zx = x) (ey : zy = y) (h1 : x ≤ y) (h2 : y ≤ l.length) => (show Calls Try.prog 35 #[v, .int .i64 zx, .int .i64 zy, .func (.func 18) #[] #[]] W (fun e w' => e = .returned (.tuple #[]) ∧ SP w') from by
    rw [hSP] at S
    obtain ⟨k, l', hp, ho⟩ := S
    have e := hp.length_eq
    rw [ex, ey]
    refine (ins_c ho (by omega) x y h1 (by omega)).mono ?_
    rintro e w' ⟨rfl, k', l'', hp', _, ho'⟩
    refine ⟨rfl, ?_⟩
    rw [hSP]
    exact ⟨k.trans k', l'', hp'.trans hp, ho'⟩))
  have HM := hid (fun W (S : SP W) (x y z : Nat) (zx zy zz : Int) (ex : zx = x) (ey : zy = y) (ez : zz = z) (h1 : x < y) (h2 : y < z) (h3 : z ≤ l.length) => (show Calls Try.prog 36 #[v, .int .i64 zx, .int .i64 zy, .int .i64 zz, .func (.func 18) #[] #[]] W (fun e w' => e = .returned (.tuple #[]) ∧ SP w') from by
    rw [hSP] at S
    obtain ⟨k, l', hp, ho⟩ := S
    have e := hp.length_eq
    rw [ex, ey, ez]
    refine (symRow_c ho (by omega) x y z h1 h2 (by omega)).mono ?_
    rintro e w' ⟨rfl, k', l'', hp', _, ho'⟩
    refine ⟨rfl, ?_⟩
    rw [hSP]
    exact ⟨k.trans k', l'', hp'.trans hp, ho'⟩))
  have HZ := hid (fun W (S : SP W) => (show Swaps w B v l (fun _ => True) (.returned (.tuple #[])) W from by
    rw [hSP] at S
    obtain ⟨k, l', hp, ho⟩ := S
    exact ⟨rfl, k, l', hp, trivial, ho⟩))
  clear h hSP
  generalize l.length = n at *
  go_enter Try.func28, Try.ntmps28
  go_wp2_with fail
  go_loopg [7, 8] n (fun k s t wr => ∃ a b : Nat, s = .int .i64 a ∧ t = .int .i64 b ∧ a + 20 = b ∧ a ≤ n ∧ n - a ≤ k ∧ Hid (SP wr))
  case atStart => exact ⟨0, 20, by go_num, by go_num, rfl, by omega, by omega, S0⟩
  case round =>
    clear S0
    obtain ⟨a, b, rfl, rfl, hab, han, hk, S1⟩ := hrel
    have HA := hid hab
    by_cases hlt : b ≤ n
    · have hltz : (b : Int) ≤ (n : Int) := by omega
      have hab' : a ≤ b := by omega
      clear hab
      go_wp2_with (go_at_call 35; refine (HI.out _ S1.out a b _ _ (by omega) (by omega) (by omega) (by omega)).mono ?_; rintro e w' ⟨rfl, hx⟩; clear S1; have S1 := hid hx; clear hx)
      have hab := HA.out
      go_roundg (n - b)
      case measure => omega
      case rel => exact ⟨b, b + 20, by go_num, by go_num, rfl, hlt, by omega, S1⟩
    · have hltz : ¬ (b : Int) ≤ (n : Int) := by omega
      clear hab hk
      go_wp2_with (go_at_call 35; refine (HI.out _ S1.out a n _ _ (by omega) (by omega) (by omega) (by omega)).mono ?_; rintro e w' ⟨rfl, hx⟩; clear S1; have S1 := hid hx; clear hx)
      clear HA hltz hlt han
      go_loopg [6] n (fun k s wr => ∃ q : Nat, s = .int .i64 q ∧ 20 ≤ q ∧ q ≤ 2000020 ∧ n - q ≤ k ∧ Hid (SP wr))
      case atStart => exact ⟨20, by go_num, by omega, by omega, by omega, S1⟩
      case round =>
        clear S1
        obtain ⟨q, rfl, hq, hqb, hk, S1⟩ := hrel
        by_cases hlt : q < n
        · have hltz : (q : Int) < (n : Int) := by omega
          go_wp2_with fail
          go_loopg [7, 8] n (fun k s t wr => ∃ a b : Nat, s = .int .i64 a ∧ t = .int .i64 b ∧ a + 2 * q = b ∧ a ≤ n ∧ n - a ≤ k ∧ Hid (SP wr))
          case atStart => exact ⟨0, 2 * q, by go_num, by go_num, by omega, by omega, by omega, S1⟩
          case round =>
            clear S1
            obtain ⟨a, b, rfl, rfl, hab, han, hk2, S1⟩ := hrel
            have HA := hid hab
            by_cases hlt2 : b ≤ n
            · have hltz2 : (b : Int) ≤ (n : Int) := by omega
              have h1 : a < a + q := by omega
              have h2 : a + q < b := by omega
              clear hab
              go_wp2_with (go_at_call 36; refine (HM.out _ S1.out a (a + q) b _ _ _ (by omega) (by omega) (by omega) h1 h2 (by omega)).mono ?_; rintro e w' ⟨rfl, hx⟩; clear S1; have S1 := hid hx; clear hx)
              have hab := HA.out
              go_roundg (n - b)
              case measure => omega
              case rel => exact ⟨b, b + 2 * q, by go_num, by go_num, rfl, hlt2, by omega, S1⟩
            · have hltz2 : ¬ (b : Int) ≤ (n : Int) := by omega
              clear hab
              by_cases hm : a + q < n
              · have hmz : (a : Int) + (q : Int) < (n : Int) := by omega
                go_wp2_with (go_at_call 36; refine (HM.out _ S1.out a (a + q) n _ _ _ (by omega) (by omega) (by omega) (by omega) hm (by omega)).mono ?_; rintro e w' ⟨rfl, hx⟩; clear S1; have S1 := hid hx; clear hx)
                go_roundg (n - q * 2)
                case measure => omega
                case rel => exact ⟨q * 2, by go_num, by omega, by omega, by omega, S1⟩
              · have hmz : ¬ (a : Int) + (q : Int) < (n : Int) := by omega
                go_wp2_with fail
                go_roundg (n - q * 2)
                case measure => omega
                case rel => exact ⟨q * 2, by go_num, by omega, by omega, by omega, S1⟩
        · have hltz : ¬ (q : Int) < (n : Int) := by omega
          go_wp2_with fail
          go_end0
          exact HZ.out _ S1.out
set_option maxRecDepth 100000 in
set_option maxHeartbeats 1000000 in
theorem sortStable_c {w : World} {B : Nat} {v : Value} {l : List LeafI} (h : w.ownsRow B 35 5 v l.length (l.map LeafI.cells).flatten) (hl : l.length ≤ 1000000) :
    Calls Try.prog 17 #[v, .func (.func 18) #[] #[]] w (Swaps w B v l (fun _ => True)) := by
  have HC := hid (stab_c h hl)
  obtain ⟨A, c, rfl, _⟩ := sl_get (sl_of_row (e := 35) (base := B) (leaf_coded.sizes l) (by rw [List.length_map]; exact h))
  clear h
  go_enter Try.func17, Try.ntmps17
  go_wp2_with (go_at_call 28; refine (HC.out).mono ?_; rintro e w' ⟨rfl, hx⟩)
  go_end0
  exact ⟨rfl, hx⟩
end Go.Proofs.Ytjbpdepeimgocaa
