/-
  lighteragelaw20.awake.
  The law FilesSays: its walk.
  few of the law of files (chapter 20): a row of light updates.
-/
import Derived.Test.YtjbpdepeimgocaaFnGk
import Derived.Test.YtjbpdepeimgocaaFlGk
namespace Go.Proofs.Ytjbpdepeimgocaa
set_option linter.unusedSimpArgs false
set_option linter.unusedVariables false
open Go.RowKit Go.Sort

theorem lit_row {α : Type} {code : α → List Value} {sz : Nat} (hc : Coded code sz) {w : World} {n : Nat} (e : TypeId) (l : List α) (cs : Array Value) (hcs : cs = ((l.map code).flatten).toArray) (hn : l.length = n) (hm : n ≤ maxLen) : Sl (w.alloc (.cells cs e)) sz (.slice (some ⟨w.heap.size, 0, none⟩) n n) (l.map code) :=
  Sl.of_flat (Blk.new w e cs) ⟨[], by rw [hcs]; simp⟩ (hc.sizes l) (by simpa using hn) (Nat.le_refl _) hm
def uA : UpdI := ⟨⟨1, 1⟩, ⟨⟨1, 1⟩, 1⟩, ⟨#[97]⟩, ⟨#[120]⟩, false⟩
def uB : UpdI := ⟨⟨2, 1⟩, ⟨⟨2, 1⟩, 2⟩, ⟨#[97]⟩, ⟨#[121]⟩, false⟩
def lP : LeafI := ⟨⟨#[97, 126, 49, 46, 49]⟩, ⟨#[97]⟩, ⟨1, 1⟩, ⟨#[120]⟩⟩
def lQ : LeafI := ⟨⟨#[97]⟩, ⟨#[97]⟩, ⟨2, 1⟩, ⟨#[121]⟩⟩
theorem alive_lit : aliveK [uA, uB] = [uA, uB] := by rfl
theorem name_lit : nameK ⟨#[97]⟩ ⟨1, 1⟩ = ⟨#[97, 126, 49, 46, 49]⟩ := by
  unfold nameK
  rw [show ((⟨1, 1⟩ : Ver).by_).toNat = 1 from rfl, digK_small (by omega)]
  rfl
theorem leaves_lit : ([uA, uB] : List UpdI).map (leafOf [uA, uB]) = [lP, lQ] := by
  have h1 : firstB [uA, uB] uA = false := by decide
  have h2 : firstB [uA, uB] uB = true := by decide
  have e1 : leafOf [uA, uB] uA = lP := by
    unfold leafOf
    rw [h1, if_neg Bool.false_ne_true]
    show (⟨nameK ⟨#[97]⟩ ⟨1, 1⟩, _, _, _⟩ : LeafI) = lP
    rw [name_lit]; rfl
  have e2 : leafOf [uA, uB] uB = lQ := by
    unfold leafOf
    rw [h2, if_pos rfl]; rfl
  rw [List.map_cons, List.map_cons, List.map_nil, e1, e2]
theorem named_lit {L : List LeafI} (h : NamedL (aliveK [uA, uB]) L) : L = [lQ, lP] := by
  obtain ⟨hp, hn⟩ := h
  rw [alive_lit, leaves_lit] at hp
  have hlen := hp.length_eq
  match L, hlen with
  | [x, y], _ =>
    have hx : x ∈ [lP, lQ] := hp.mem_iff.1 List.mem_cons_self
    have hl := hn 0 1 (by simp) (by simp) (Nat.le_refl _) (by omega) (by simp)
    simp only [List.getElem_cons_zero, List.getElem_cons_succ] at hl
    rcases List.mem_cons.1 hx with rfl | hx
    · have hy := (List.perm_cons lP).1 hp
      have : y = lQ := by simpa using hy
      subst this
      have hb : blt lQ.name lP.name = true := by rw [blt_iff, Lib.toList_data, Lib.toList_data]; decide
      rw [hb] at hl; cases hl
    · have : x = lQ := List.mem_singleton.1 hx
      subst this
      have hy := (List.perm_cons lQ).1 (hp.trans (List.Perm.swap lQ lP []))
      have : y = lP := by simpa using hy
      rw [this]
theorem find_lit : findN [lQ, lP] ⟨#[97, 126, 49, 46, 49]⟩ = some lP := by
  have h : ¬ lQ.name = (⟨#[97, 126, 49, 46, 49]⟩ : ByteArray) := by decide
  unfold findN
  rw [List.find?_cons_of_neg (by simp [h]), List.find?_cons_of_pos (by simp [lP])]
theorem foundK_lP : foundK (some lP) = .tuple #[.agg #[.string ⟨#[97, 126, 49, 46, 49]⟩, .string ⟨#[97]⟩, .int .i64 1, .int .i64 1, .string ⟨#[120]⟩], .bool true] := rfl
theorem two_lit {w : World} {v : Value} (h : Sl w 5 v ([lQ, lP].map LeafI.cells)) : ∃ b o c, v = .slice (some ⟨b, o, none⟩) 2 c ∧ 2 ≤ c ∧ c ≤ 2 ^ 63 - 1 ∧ b < w.heap.size ∧ w.cell? ⟨b, o, none⟩ = some (.string ⟨#[97]⟩) ∧ w.cell? ⟨b, o + 4, none⟩ = some (.string ⟨#[121]⟩) := by
  obtain ⟨A, c, rfl, g1, g2, g3⟩ := sl_get h
  obtain ⟨b, o, rfl, lb, hc⟩ := g3 (by simp)
  have h1 := hc 0 (by simp) 0 _ rfl
  have h2 := hc 0 (by simp) 4 _ rfl
  simp only [Nat.zero_mul, Nat.add_zero] at h1 h2
  exact ⟨b, o, c, rfl, g1, g2, lb, h1, h2⟩
theorem leaves_two {w : World} (P : Program) (f : Nat) (args : Array Value) (h : Calls P f args w (RetQ (fun v' w' => ∃ L, NamedL (aliveK [uA, uB]) L ∧ RowAt LeafI.cells 5 L v' w') w)) : Calls P f args w (RetQ (fun v' w' => Sl w' 5 v' ([lQ, lP].map LeafI.cells) ∧ ∃ b o c, v' = .slice (some ⟨b, o, none⟩) 2 c ∧ 2 ≤ c ∧ c ≤ 2 ^ 63 - 1 ∧ b < w'.heap.size ∧ w'.cell? ⟨b, o, none⟩ = some (.string ⟨#[97]⟩) ∧ w'.cell? ⟨b, o + 4, none⟩ = some (.string ⟨#[121]⟩)) w) :=
  h.mono fun e w' ⟨v', he, ⟨L, hL, hv⟩, hx⟩ => by
    have := named_lit hL
    subst this
    exact ⟨v', he, ⟨hv.1, two_lit hv.1⟩, hx⟩
set_option maxRecDepth 100000 in
set_option maxHeartbeats 4000000 in
theorem awake20_c (w : World) : Calls Try.prog 8 #[] w (Ret (.bool true) w) := by
  have HLs := lit_row (w := (w.alloc (.cells #[.int .i64 1, .int .i64 1, .int .i64 1, .int .i64 1, .int .i64 1, .string ⟨#[97]⟩, .string ⟨#[120]⟩, .bool false] 30)).alloc (.cells #[.int .i64 2, .int .i64 1, .int .i64 2, .int .i64 1, .int .i64 2, .string ⟨#[97]⟩, .string ⟨#[121]⟩, .bool false] 30)) (n := 2) upd_coded 30 [uA, uB] #[.int .i64 1, .int .i64 1, .int .i64 1, .int .i64 1, .int .i64 1, .string ⟨#[97]⟩, .string ⟨#[120]⟩, .bool false, .int .i64 2, .int .i64 1, .int .i64 2, .int .i64 1, .int .i64 2, .string ⟨#[97]⟩, .string ⟨#[121]⟩, .bool false] rfl rfl (by unfold maxLen; omega)
  rw [World.size_alloc, World.size_alloc] at HLs
  have HL := hid (leaves_two _ _ _ (fleaves_c _ _ [uA, uB] HLs (by simp) (fun u hu => by
    rcases List.mem_cons.1 hu with rfl | hu
    · exact ⟨by decide, by decide, by decide⟩
    · rw [List.mem_singleton.1 hu]; exact ⟨by decide, by decide, by decide⟩) (by rw [alive_lit]; simp)))
  clear HLs
  have HF := fun (W : World) (v : Value) (hv : Sl W 5 v ([lQ, lP].map LeafI.cells)) => hid (ffind_c W v [lQ, lP] ⟨#[97, 126, 49, 46, 49]⟩ hv)
  rw [find_lit, foundK_lP] at HF
  go_enter Try.func8, Try.ntmps8
  go_wp2_with (first
    | (go_at_call 21; refine (HF _ _ HV1.out).out.mono ?_; rintro e w4 ⟨rfl, hx4⟩; have X4 := hid hx4; have d0 := hx4.cell c0; have d4 := hx4.cell c4; have ld := Nat.lt_of_lt_of_le lb hx4.size; clear hx4)
    | (go_at_call 6; refine (HL.out).mono ?_; rintro e w1 ⟨v1, rfl, ⟨hv1, b, o, c3, rfl, g1, g2, lb, c0, c4⟩, hx1⟩; have HX1 := hid hx1; have HV1 := hid hv1; clear hv1 hx1))
  go_ret
  exact ⟨rfl, ((((((Ext.alloc _ _).alloc' _).alloc' _).trans HX1.out).trans X4.out).alloc' _)⟩
end Go.Proofs.Ytjbpdepeimgocaa
namespace Go.Proofs.Ytjbpdepeimgocaa
set_option linter.unusedSimpArgs false
set_option linter.unusedVariables false
open Go.RowKit Go.Sort

end Go.Proofs.Ytjbpdepeimgocaa
namespace Go.Proofs.Ytjbpdepeimgocaa
set_option linter.unusedSimpArgs false
set_option linter.unusedVariables false
open Go.RowKit Go.Sort

set_option maxRecDepth 100000 in
set_option maxHeartbeats 4000000 in
theorem few20_e (w : World) (v : Value) (l : List UpdI) (h : Sl w 8 v (l.map UpdI.cells)) (hf : ∀ u ∈ l, okV u.item) : Calls Try.prog 4 #[v] w (RetQ (fun v' w' => ∃ bs : List UpdI, RowAt UpdI.cells 8 bs v' w' ∧ bs.length ≤ 25 ∧ ∀ u ∈ bs, Fine u) w) := by
  obtain ⟨A, c, rfl, h1, h2, h3⟩ := sl_get h
  have HF := hid hf
  unfold maxLen at h2
  clear h hf
  go_enter Try.func4, Try.ntmps4
  go_wp2_with fail
  go_loopw [3, 4] (fun ou i wr => ∃ (k : Nat) (bs : List UpdI), k ≤ l.length ∧ k ≤ 25 ∧ i = .int .i64 k ∧ Ext w wr ∧ bs.length ≤ k ∧ (∀ u ∈ bs, Fine u) ∧ (bs.length = 0 → ou = .slice none 0 0) ∧ wr.ownsRow w.heap.size 30 8 ou bs.length (bs.map UpdI.cells).flatten) (fun _ i _ => 25 - (intOf i).toNat)
  case atStart => exact ⟨0, [], by omega, by omega, rfl, Ext.refl _, by simp, by simp, (fun _ => rfl), ownsRow_nil _ _ _ _⟩
  case round =>
    obtain ⟨k, bs, hk, hk25, rfl, hE, hbl, hbf, hz, hO⟩ := hrel
    have HE := hid hE
    have HO := hid hO
    have HZ := hid hz
    have HBf := hid hbf
    by_cases hgo : k < l.length ∧ k < 25
    · obtain ⟨hlt, h25⟩ := hgo
      have d0 : decide ((k : Int) < 25) = true := by simp; omega
      obtain ⟨b, o, rfl, lb, hcell⟩ := h3 (by omega)
      have c0 := hE.cell (hcell k hlt 0 _ rfl)
      have c1 := hE.cell (hcell k hlt 1 _ rfl)
      have c2 := hE.cell (hcell k hlt 2 _ rfl)
      have c3 := hE.cell (hcell k hlt 3 _ rfl)
      have c4 := hE.cell (hcell k hlt 4 _ rfl)
      have c5 := hE.cell (hcell k hlt 5 _ rfl)
      have c6 := hE.cell (hcell k hlt 6 _ rfl)
      have c7 := hE.cell (hcell k hlt 7 _ rfl)
      rw [Nat.add_zero] at c0
      have lbr := Nat.lt_of_lt_of_le lb hE.size
      have hok := HF.out _ (List.getElem_mem hlt)
      clear hcell h3 hE hz hO hbf lb HF
      generalize l[k] = x at c0 c1 c2 c3 c4 c5 c6 c7 hok
      have HL := fun W => hid (light_c x W)
      unfold UpdI.val at HL
      cases hlx : lightU x with
      | false =>
        rw [hlx] at HL
        clear hlx
        go_wp2_with (go_at_call 10; refine ((HL _).out).mono ?_; rintro e w2 ⟨rfl, hx2⟩; have HX2 := hid hx2; clear hx2)
        go_roundw
        case rel => exact ⟨k + 1, bs, by omega, by omega, by go_num, HE.out.trans HX2.out, by omega, HBf.out, HZ.out, ownsRow_ext HO.out HX2.out⟩
        case measure => simp [intOf]; omega
      | true =>
        rw [hlx] at HL
        have HFx : Hid (Fine x) := ⟨hlx, hok⟩
        clear hlx hok
        go_wp2_with (first
          | (at_builtin; obtain ⟨v', w6, hrun6, ho6, hk6, _⟩ := app_one (P := Try.prog) upd_elem upd_coded (ownsRow_ext HO.out HX2.out) (Nat.le_trans HE.out.size HX2.out.size) x (by omega) (by omega); simp only [UpdI.cells] at hrun6; have HE6 := hid (hk6.toExt (HE.out.trans HX2.out) (fun q hq => (row_block HO.out q hq).1)); have HO6 := hid ho6; have HB6 : Hid (∀ u ∈ bs ++ [x], Fine u) := (fun u hu => (List.mem_append.1 hu).elim (HBf.out u) (fun hu => by rw [List.mem_singleton.1 hu]; exact HFx.out)); clear ho6 hk6; refine wpList_app rfl (.tmp 20) (.tmp 25) _ _ rfl rfl rfl hrun6 ?_)
          | (go_at_call 10; refine ((HL _).out).mono ?_; rintro e w2 ⟨rfl, hx2⟩; have HX2 := hid hx2; have f0 := hx2.cell c0; have f1 := hx2.cell c1; have f2 := hx2.cell c2; have f3 := hx2.cell c3; have f4 := hx2.cell c4; have f5 := hx2.cell c5; have f6 := hx2.cell c6; have f7 := hx2.cell c7; have lf := Nat.lt_of_lt_of_le lbr hx2.size; clear hx2 c0 c1 c2 c3 c4 c5 c6 c7 lbr))
        go_roundw
        case rel => exact ⟨k + 1, bs ++ [x], by omega, by omega, by go_num, HE6.out, by simp; omega, HB6.out, (fun h => by simp at h), HO6.out⟩
        case measure => simp [intOf]; omega
    · have hrow := RowAt.of_row upd_coded hO hz
      have HR := hid hrow
      clear hE h3 hz hO hbf hrow HF HO HZ
      by_cases hh : k < l.length
      · have d0 : decide (k < l.length) = true := decide_eq_true hh
        have d1 : decide ((k : Int) < 25) = false := by simp; omega
        clear hgo
        go_wp2_with fail
        go_ret
        exact ⟨_, rfl, ⟨bs, HR.out, by omega, HBf.out⟩, HE.out⟩
      · have d0 : decide (k < l.length) = false := decide_eq_false hh
        clear hgo
        go_wp2_with fail
        go_ret
        exact ⟨_, rfl, ⟨bs, HR.out, by omega, HBf.out⟩, HE.out⟩
end Go.Proofs.Ytjbpdepeimgocaa
