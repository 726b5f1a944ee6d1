/-
  awake of chapter 11.
-/
import Derived.Test.YtggbkjmedoooaaaGreatDoorQdI
import Derived.Test.YtggbkjmedoooaaaGreatDoorReqk
namespace Go.Proofs.YtggbkjmedoooaaaGreatDoor
set_option linter.unusedSimpArgs false
set_option linter.unusedVariables false
open Go.RowKit Go.Sort

def qE : ByteArray := ⟨#[]⟩
def qA : ByteArray := ⟨#[97]⟩
def qAB : ByteArray := ⟨#[97, 47, 98]⟩
def lit1 : List ClauseI := [⟨qAB, 3, 4⟩, ⟨qE, 0, 200⟩]
def lit2 : List ClauseI := [⟨qA, 0, 9⟩, ⟨qA, 10, 20⟩]
def lit3 : List ClauseI := [⟨qA, 0, 20⟩]
theorem right_qA : Pa.rightK qA = true := by
  have h1 : Pa.spB qA = [qA] := by unfold Pa.spB qA; rw [Lib.toList_data]; rfl
  have h2 : Pa.nameK qA = true := by unfold Pa.nameK qA; rw [Lib.toList_data]; decide
  unfold Pa.rightK
  rw [h1, List.all_cons, h2]; rfl
theorem right_qAB : Pa.rightK qAB = true := by
  have h1 : Pa.spB qAB = [⟨#[97]⟩, ⟨#[98]⟩] := by unfold Pa.spB qAB; rw [Lib.toList_data]; rfl
  have h2 : Pa.nameK ⟨#[97]⟩ = true := by unfold Pa.nameK; rw [Lib.toList_data]; decide
  have h3 : Pa.nameK ⟨#[98]⟩ = true := by unfold Pa.nameK; rw [Lib.toList_data]; decide
  unfold Pa.rightK
  rw [h1, List.all_cons, List.all_cons, h2, h3]; rfl
theorem qA_list : qA.toList = [97] := by unfold qA; rw [Lib.toList_data]
theorem qAB_list : qAB.toList = [97, 47, 98] := by unfold qAB; rw [Lib.toList_data]
theorem qE_list : qE.toList = [] := by unfold qE; rw [Lib.toList_data]
theorem lit1_right : ∀ c ∈ lit1, rightC c = true := by
  intro c hc
  unfold lit1 at hc
  rcases List.mem_cons.1 hc with rfl | hc
  · unfold rightC; simp [qAB_list, right_qAB]
  · rw [List.mem_singleton.1 hc]; unfold rightC; simp [qE_list]
theorem lit2_right : ∀ c ∈ lit2, rightC c = true := by
  intro c hc
  unfold lit2 at hc
  rcases List.mem_cons.1 hc with rfl | hc
  · unfold rightC; simp [qA_list, right_qA]
  · rw [List.mem_singleton.1 hc]; unfold rightC; simp [qA_list, right_qA]
theorem digK_2 {a b : Nat} (ha : a < 10) (hb : b < 10) (h0 : 0 < a) : digK (10 * a + b) = ⟨#[dgB a]⟩ ++ ⟨#[dgB b]⟩ := by
  rw [digK_big (by omega), show (10 * a + b) / 10 = a by omega, show (10 * a + b) % 10 = b by omega, digK_small ha]
theorem text_lit1 : textF lit1 = ⟨#[97, 47, 98, 58, 51, 45, 52, 44, 42]⟩ := by
  have h1 : textC ⟨qAB, 3, 4⟩ = ⟨#[97, 47, 98, 58, 51, 45, 52]⟩ := by
    rw [textC_range (by decide)]
    have e : headC ⟨qAB, 3, 4⟩ = qAB := by unfold headC; rw [if_neg (by rw [qAB_list]; simp)]
    rw [e]
    show qAB ++ ⟨#[58]⟩ ++ digK 3 ++ ⟨#[45]⟩ ++ digK 4 = _
    rw [digK_small (by omega), digK_small (by omega)]
    decide
  have h2 : textC ⟨qE, 0, 200⟩ = ⟨#[42]⟩ := by
    rw [textC_full ⟨rfl, rfl⟩]
    unfold headC
    rw [if_pos qE_list]; rfl
  unfold textF lit1
  rw [if_neg (by simp)]
  show joinC ([textC ⟨qAB, 3, 4⟩] ++ [textC ⟨qE, 0, 200⟩]) = _
  rw [joinC_snoc (by simp), joinC_one, h1, h2]
  decide
theorem text_lit2 : textF lit2 = ⟨#[97, 58, 48, 45, 57, 44, 97, 58, 49, 48, 45, 50, 48]⟩ := by
  have h1 : textC ⟨qA, 0, 9⟩ = ⟨#[97, 58, 48, 45, 57]⟩ := by
    rw [textC_range (by decide)]
    have e : headC ⟨qA, 0, 9⟩ = qA := by unfold headC; rw [if_neg (by rw [qA_list]; simp)]
    rw [e]
    show qA ++ ⟨#[58]⟩ ++ digK 0 ++ ⟨#[45]⟩ ++ digK 9 = _
    rw [digK_small (by omega), digK_small (by omega)]
    decide
  have h2 : textC ⟨qA, 10, 20⟩ = ⟨#[97, 58, 49, 48, 45, 50, 48]⟩ := by
    rw [textC_range (by decide)]
    have e : headC ⟨qA, 10, 20⟩ = qA := by unfold headC; rw [if_neg (by rw [qA_list]; simp)]
    rw [e]
    show qA ++ ⟨#[58]⟩ ++ digK (10 * 1 + 0) ++ ⟨#[45]⟩ ++ digK (10 * 2 + 0) = _
    rw [digK_2 (by omega) (by omega) (by omega), digK_2 (by omega) (by omega) (by omega)]
    decide
  unfold textF lit2
  rw [if_neg (by simp)]
  show joinC ([textC ⟨qA, 0, 9⟩] ++ [textC ⟨qA, 10, 20⟩]) = _
  rw [joinC_snoc (by simp), joinC_one, h1, h2]
  decide
theorem text_lit3 : textF lit3 = ⟨#[97, 58, 48, 45, 50, 48]⟩ := by
  unfold textF lit3
  rw [if_neg (by simp)]
  show joinC [textC ⟨qA, 0, 20⟩] = _
  rw [joinC_one, textC_range (by decide)]
  have e : headC ⟨qA, 0, 20⟩ = qA := by unfold headC; rw [if_neg (by rw [qA_list]; simp)]
  rw [e]
  show qA ++ ⟨#[58]⟩ ++ digK 0 ++ ⟨#[45]⟩ ++ digK (10 * 2 + 0) = _
  rw [digK_small (by omega), digK_2 (by omega) (by omega) (by omega)]
  decide
theorem covQ : cov qA qA = true := by
  rw [cov_iff2]
  exact .inr (.inl rfl)
theorem pre_lit2 : preS lit2 = [qA] := by
  refine srtL_eq blt_strict (setL_srt blt_strict _) (List.pairwise_singleton _ _) fun x => ?_
  rw [mem_preS]
  unfold lit2
  simp only [List.mem_cons, List.not_mem_nil, or_false]
  constructor
  · rintro ⟨c, rfl | rfl, rfl⟩ <;> rfl
  · rintro rfl
    exact ⟨_, .inl rfl, rfl⟩
theorem own_lit2 : ownF lit2 qA = [⟨0, 20⟩] := by
  have h1 : selR lit2 qA = [⟨0, 9⟩, ⟨10, 20⟩] := by unfold selR lit2; simp [covQ, rngOf]
  have h2 : selR (abvF lit2 qA) qA = [] := by unfold abvF selR lit2; simp
  unfold ownF
  rw [h1, h2]
  refine (nf_is ⟨fun r hr => ?_, List.pairwise_singleton _ _⟩ fun n => ?_).symm
  · rw [List.mem_singleton.1 hr]; unfold Ok1; decide
  · unfold sizes; simp [memS_cons, memS_nil, inR]; omega
theorem norm_lit2 : normF lit2 = lit3 := by
  unfold normF
  rw [pre_lit2]
  unfold normL
  simp [own_lit2, mkC, lit3]
theorem plain_lit2 : plainF lit2 = ⟨#[97, 58, 48, 45, 50, 48]⟩ := by
  unfold plainF
  rw [norm_lit2, if_pos (by decide), text_lit3]
set_option maxRecDepth 100000 in
set_option maxHeartbeats 8000000 in
theorem awake11_c (w : World) (m : Int) (hm : w.cell? ⟨0, 0, none⟩ = some (.int .i64 m)) : Calls Tryz.prog 7 #[] w (Ret (.bool true) w) := by
  have p1 := parR_text lit1_right (by decide)
  have p2 := parR_text lit2_right (by decide)
  rw [text_lit1] at p1
  rw [text_lit2] at p2
  have HP1 := hid (parse_c w ⟨#[97, 47, 98, 58, 51, 45, 52, 44, 42]⟩ m hm (by decide))
  have HP2 := fun W => hid (parse_bang W)
  unfold Pa.mk at HP2
  have HP3 := fun W (hW : Ext w W) => hid (plain_c W ⟨#[97, 58, 48, 45, 57, 44, 97, 58, 49, 48, 45, 50, 48]⟩ m (hW.cell hm) (by decide))
  rw [p1] at HP1
  rw [p2] at HP3
  have HEq := fun W u v (hu : Sl W 3 u (lit1.map ClauseI.cells)) (hv : Sl W 3 v (lit1.map ClauseI.cells)) => hid (requal_c W u v lit1 lit1 hu hv)
  simp only [decide_true] at HEq
  have HPl := hid plain_lit2
  clear hm p1 p2
  go_enter Tryz.func7, Tryz.ntmps7
  go_wp2_with fail
  refine (HP1.out).mono ?_
  rintro en w1 ⟨x1, (⟨hr, _⟩ | ⟨f, v, hr, rfl, hv⟩)⟩
  · cases hr
  · obtain rfl := Option.some.inj hr
    have HX1 := hid x1
    have HV1 := hid hv
    clear x1 hr hv HP1
    go_wp2_with fail
    refine ((HP2 _).out).mono ?_
    rintro en w2 ⟨rfl, x2⟩
    have HX2 := hid (HX1.out.trans x2)
    have HV2 := hid (HV1.out.ext x2)
    clear x2 HX1 HV1 HP2
    go_wp2_with fail
    refine ((HP3 _ HX2.out).out).mono ?_
    rintro en w3 ⟨x3, (⟨hr, _⟩ | ⟨f, hr, rfl⟩)⟩
    · cases hr
    · obtain rfl := Option.some.inj hr
      rw [HPl.out]
      have HX3 := hid (HX2.out.trans x3)
      have HV3 := hid (HV2.out.ext x3)
      clear x3 hr HX2 HV2 HP3 HPl
      obtain ⟨A, c, rfl, _⟩ := sl_get HV3.out
      have HB := hid (Blk.new w3 42 #[.string ⟨#[97, 47, 98]⟩, .int .i64 3, .int .i64 4, .string ⟨#[]⟩, .int .i64 0, .int .i64 200])
      have HX4 := hid (HX3.out.alloc' (.cells #[.string ⟨#[97, 47, 98]⟩, .int .i64 3, .int .i64 4, .string ⟨#[]⟩, .int .i64 0, .int .i64 200] 42))
      have HS4 : Hid (Sl (w3.alloc (.cells #[.string ⟨#[97, 47, 98]⟩, .int .i64 3, .int .i64 4, .string ⟨#[]⟩, .int .i64 0, .int .i64 200] 42)) 3 (.slice (some ⟨w3.heap.size, 0, none⟩) 2 2) (lit1.map ClauseI.cells)) := Sl.of_flat HB.out ⟨[], by rfl⟩ (clause_coded.sizes _) rfl (Nat.le_refl _) (by unfold maxLen; omega)
      have HV4 := hid (HV3.out.ext (Ext.alloc w3 (.cells #[.string ⟨#[97, 47, 98]⟩, .int .i64 3, .int .i64 4, .string ⟨#[]⟩, .int .i64 0, .int .i64 200] 42)))
      go_wp2_with fail
      refine ((HEq _ _ _ HV4.out HS4.out).out).mono ?_
      rintro en w5 ⟨rfl, x5⟩
      have HX5 := hid (HX4.out.trans x5)
      clear x5
      go_wp2_with fail
      go_ret
      exact ⟨rfl, HX5.out⟩
end Go.Proofs.YtggbkjmedoooaaaGreatDoor
