/-
  pack.PutUpdate.
  pack.PutMeta.
  The document's bytes of an update.
  What is put of an update is the document's bytes: plain.
  The document's bytes of a meta; what is put of one is that.
  PutUpdate and PutMeta of whatever update: one contract each.
-/
import Derived.Test.YtmbgakjkhgdjnaaGreatDoorQaD
import Derived.Test.YtmbgakjkhgdjnaaGreatDoorQbD
import Derived.Test.YtmbgakjkhgdjnaaGreatDoorQaB
namespace Go.Proofs.YtmbgakjkhgdjnaaGreatDoor
set_option linter.unusedSimpArgs false
set_option linter.unusedVariables false
open Go.RowKit

/-- A truth's number. -/
def flagZ (b : Bool) : Int := if b then 1 else 0
def updF (u : UpdI) : List FldI := [fN u.item.by_, fN u.item.n, fN u.st.v.by_, fN u.st.v.n, fN u.st.time, fT u.p, fT u.d, fN (flagZ u.dead)]
set_option maxRecDepth 100000 in
set_option maxHeartbeats 4000000 in
theorem putU_no (w : World) (u : UpdI) (m : Int) (hm : w.cell? ⟨0, 0, none⟩ = some (.int .i64 m)) (hu : u.p.size ≤ 90000) (e0 : u.chk ≠ 0) : Calls Tryz.prog 130 #[u.val] w (Ret (.tuple #[.string ⟨#[]⟩, .int .i64 2]) w) := by
  have HC := fun W (hW : Ext w W) => hid (ucheck_c W u m (hW.cell hm) hu)
  have d0 : (u.chk != 0) = true := by simp [e0]
  generalize u.chk = ck at HC d0
  have HE := hid (Ext.alloc w (.cells #[.int .i64 u.item.by_, .int .i64 u.item.n, .int .i64 u.st.v.by_, .int .i64 u.st.v.n, .int .i64 u.st.time, .string u.p, .string u.d, .bool u.dead] 64))
  unfold UpdI.val at HC ⊢
  clear hm e0
  go_enter Tryz.func130, Tryz.ntmps130
  go_wp2_with fail
  refine ((HC _ HE.out).out).mono ?_
  rintro e w1 ⟨rfl, x1⟩
  have X1 := hid (HE.out.trans x1)
  clear x1 HC
  go_wp2_with fail
  go_ret2
  exact ⟨rfl, X1.out⟩
set_option maxRecDepth 100000 in
set_option maxHeartbeats 8000000 in
theorem putU_yes (w : World) (u : UpdI) (m : Int) (hm : w.cell? ⟨0, 0, none⟩ = some (.int .i64 m)) (hu : u.p.size ≤ 90000) (e0 : u.chk = 0) (hok : ∀ f ∈ updF u, f.ok) (htot : (encL (updF u)).length ≤ 65536) : Calls Tryz.prog 130 #[u.val] w (Ret (.tuple #[.string ⟨(encL (updF u)).toArray⟩, .int .i64 0]) w) := by
  have HC := fun W (hW : Ext w W) => hid (ucheck_c W u m (hW.cell hm) hu)
  rw [e0] at HC
  have HL := fun W v (h : Sl W 3 v ((updF u).map FldI.cells)) => hid (play_c W v (updF u) h hok (by simp [updF]) htot)
  have HS := fun W => hid (pstamp_c W u.item u.st.v.by_ u.st.v.n u.st.time u.p)
  have HN := fun W n => hid (fN_c W n)
  have HT := fun W => hid (fT_c W u.d)
  have HG : ∀ W, Hid (Calls Tryz.prog 164 #[.bool u.dead] W (Ret (.int .i64 (flagZ u.dead)) W)) := fun W => flag_c W u.dead
  have HE := hid (Ext.alloc w (.cells #[.int .i64 u.item.by_, .int .i64 u.item.n, .int .i64 u.st.v.by_, .int .i64 u.st.v.n, .int .i64 u.st.time, .string u.p, .string u.d, .bool u.dead] 64))
  have HB := hid (Blk.new w 64 #[.int .i64 u.item.by_, .int .i64 u.item.n, .int .i64 u.st.v.by_, .int .i64 u.st.v.n, .int .i64 u.st.time, .string u.p, .string u.d, .bool u.dead])
  unfold UpdI.val at HC ⊢
  clear hm e0 hok htot
  go_enter Tryz.func130, Tryz.ntmps130
  go_wp2_with fail
  generalize w.alloc (.cells #[.int .i64 u.item.by_, .int .i64 u.item.n, .int .i64 u.st.v.by_, .int .i64 u.st.v.n, .int .i64 u.st.time, .string u.p, .string u.d, .bool u.dead] 64) = w0 at HE HB ⊢
  refine ((HC _ HE.out).out).mono ?_
  rintro e w1 ⟨rfl, x1⟩
  have X1 := hid (HE.out.trans x1)
  have HB1 := hid (HB.out.ext x1)
  clear x1 HC HB
  have b0 := HB1.out.cell (i := 0) (v := .int .i64 u.item.by_) rfl
  have b1 := HB1.out.cell (i := 1) (v := .int .i64 u.item.n) rfl
  have b2 := HB1.out.cell (i := 2) (v := .int .i64 u.st.v.by_) rfl
  have b3 := HB1.out.cell (i := 3) (v := .int .i64 u.st.v.n) rfl
  have b4 := HB1.out.cell (i := 4) (v := .int .i64 u.st.time) rfl
  have b5 := HB1.out.cell (i := 5) (v := .string u.p) rfl
  have b6 := HB1.out.cell (i := 6) (v := .string u.d) rfl
  have b7 := HB1.out.cell (i := 7) (v := .bool u.dead) rfl
  have bl := HB1.out.lt
  go_wp2_with fail
  refine wp_region_tail (pre := ?pre15) (tl := ?tl15) 15 ?hpre15 ?htl15 (of_decide_eq_true (by kernel_rfl)) (by kernel_rfl) (by kernel_rfl) (by kernel_rfl) (by kernel_rfl) ?_
  case hpre15 => (simp only [List.take_succ_cons, List.take_zero]; first | done | exact rfl)
  case htl15 => (simp only [List.drop_succ_cons, List.drop_zero]; first | done | exact rfl)
  repeat (first
    | (refine AWq.val rfl rfl rfl rfl (fun K hK => ?_); go_big_quiet_op; refine hK _ ?_; clear hK K)
    | (refine AWq.skip rfl rfl rfl ?_; simp only [Act.put, List.setIfInBounds_toArray, List.set_cons_succ, List.set_cons_zero])
    | (refine AWq.call rfl Tryz.func101 (by kernel_rfl) (by kernel_rfl) rfl rfl rfl ?_; apply Exists.intro; refine And.intro (fun wc hc => ?_) ?_; (· (simp only [argsOf, anyAt, ↓reduceIte, Nat.reduceEqDiff, Array.getD_eq_getD_getElem?, List.getElem?_toArray, List.getElem?_cons_succ, List.getElem?_cons_zero, Option.getD_some]; with_reducible exact (HN _ _).out)); simp only [Act.put, List.setIfInBounds_toArray, List.set_cons_succ, List.set_cons_zero])
    | (refine AWq.call rfl Tryz.func99 (by kernel_rfl) (by kernel_rfl) rfl rfl rfl ?_; apply Exists.intro; refine And.intro (fun wc hc => ?_) ?_; (· (simp only [argsOf, anyAt, ↓reduceIte, Nat.reduceEqDiff, Array.getD_eq_getD_getElem?, List.getElem?_toArray, List.getElem?_cons_succ, List.getElem?_cons_zero, Option.getD_some]; with_reducible exact (HT _).out)); simp only [Act.put, List.setIfInBounds_toArray, List.set_cons_succ, List.set_cons_zero])
    | (refine AWq.call rfl Tryz.func164 (by kernel_rfl) (by kernel_rfl) rfl rfl rfl ?_; apply Exists.intro; refine And.intro (fun wc hc => ?_) ?_; (· (simp only [argsOf, anyAt, ↓reduceIte, Nat.reduceEqDiff, Array.getD_eq_getD_getElem?, List.getElem?_toArray, List.getElem?_cons_succ, List.getElem?_cons_zero, Option.getD_some]; with_reducible exact (HG _).out)); simp only [Act.put, List.setIfInBounds_toArray, List.set_cons_succ, List.set_cons_zero])
    | (refine AWq.callQ ((fun v W => OwnF [fN u.item.by_, fN u.item.n, fN u.st.v.by_, fN u.st.v.n, fN u.st.time, fT u.p] w1.heap.size v W)) ((fun v _ _ he h => OwnF.ext h he)) rfl Tryz.func163 (by kernel_rfl) (by kernel_rfl) rfl rfl rfl (fun wc hc => ?_) ?_; (· (simp only [argsOf, anyAt, ↓reduceIte, Nat.reduceEqDiff, Array.getD_eq_getD_getElem?, List.getElem?_toArray, List.getElem?_cons_succ, List.getElem?_cons_zero, Option.getD_some]; exact ((HS wc).out).mono fun e w' ⟨v, e1, e2, e3⟩ => ⟨v, e1, e2.weak hc.size, e3⟩)))
    | (refine AWq.opV (fun v W => OwnF [fT u.d, fN (flagZ u.dead)] w1.heap.size v W) (fun v _ _ he h => OwnF.ext h he) rfl rfl rfl rfl (fun wc hc => ?_) ?_; (· (have hc2 := hc.size; have hc' := hc.rule; clear hc; go_simp; dsimp only [Gives]; exact ⟨own_two wc hc2 (fT u.d) (fN (flagZ u.dead)), Ext.alloc _ _⟩))))
  refine AWq.tail rfl rfl rfl (fun w2 x2 => ?_)
  simp only [closeAny, Act.put, List.setIfInBounds_toArray, List.set_cons_succ, List.set_cons_zero]
  intro v21 h21 v13 h13
  obtain ⟨v3, w3, hrun, hO3, hk3⟩ := h13.app x2.size h21.sl (by simp) (by simp)
  have HE3 : Hid (Ext w1 w3) := hk3.toExt x2 fun q hq => (row_block h13 q hq).1
  have HS3 : Hid (Sl w3 3 v3 ((updF u).map FldI.cells)) := hO3.sl
  obtain ⟨A3, c3, rfl, _⟩ := sl_get HS3.out
  clear hO3 hk3 h13 h21 b0 b1 b2 b3 b4 b5 b6 b7 bl
  at_builtin
  refine wpList_app rfl (.tmp 13) (.tmp 21) _ _ rfl rfl rfl hrun ?_
  go_wp2_with fail
  refine ((HL _ _ HS3.out).out).mono ?_
  rintro e w4 ⟨rfl, x4⟩
  go_wp2_with fail
  go_ret2
  exact ⟨rfl, (X1.out.trans HE3.out).trans x4⟩
end Go.Proofs.YtmbgakjkhgdjnaaGreatDoor
namespace Go.Proofs.YtmbgakjkhgdjnaaGreatDoor
set_option linter.unusedSimpArgs false
set_option linter.unusedVariables false
open Go.RowKit

def metF (u : MetaI) : List FldI := [fN u.item.by_, fN u.item.n, fN u.st.v.by_, fN u.st.v.n, fN u.st.time, fT u.p, fN u.size, fN (flagZ u.dead)]
set_option maxRecDepth 100000 in
set_option maxHeartbeats 4000000 in
theorem putM_no (w : World) (u : MetaI) (m : Int) (hm : w.cell? ⟨0, 0, none⟩ = some (.int .i64 m)) (hu : u.p.size ≤ 90000) (e0 : u.chk ≠ 0) : Calls Tryz.prog 131 #[u.val] w (Ret (.tuple #[.string ⟨#[]⟩, .int .i64 2]) w) := by
  have HC := fun W (hW : Ext w W) => hid (ucheckm_c W u m (hW.cell hm) hu)
  have d0 : (u.chk != 0) = true := by simp [e0]
  generalize u.chk = ck at HC d0
  have HE := hid (Ext.alloc w (.cells #[.int .i64 u.item.by_, .int .i64 u.item.n, .int .i64 u.st.v.by_, .int .i64 u.st.v.n, .int .i64 u.st.time, .string u.p, .int .i64 u.size, .bool u.dead] 66))
  unfold MetaI.val at HC ⊢
  clear hm e0
  go_enter Tryz.func131, Tryz.ntmps131
  go_wp2_with fail
  refine ((HC _ HE.out).out).mono ?_
  rintro e w1 ⟨rfl, x1⟩
  have X1 := hid (HE.out.trans x1)
  clear x1 HC
  go_wp2_with fail
  go_ret2
  exact ⟨rfl, X1.out⟩
set_option maxRecDepth 100000 in
set_option maxHeartbeats 8000000 in
theorem putM_yes (w : World) (u : MetaI) (m : Int) (hm : w.cell? ⟨0, 0, none⟩ = some (.int .i64 m)) (hu : u.p.size ≤ 90000) (e0 : u.chk = 0) (hok : ∀ f ∈ metF u, f.ok) (htot : (encL (metF u)).length ≤ 65536) : Calls Tryz.prog 131 #[u.val] w (Ret (.tuple #[.string ⟨(encL (metF u)).toArray⟩, .int .i64 0]) w) := by
  have HC := fun W (hW : Ext w W) => hid (ucheckm_c W u m (hW.cell hm) hu)
  rw [e0] at HC
  have HL := fun W v (h : Sl W 3 v ((metF u).map FldI.cells)) => hid (play_c W v (metF u) h hok (by simp [metF]) htot)
  have HS := fun W => hid (pstamp_c W u.item u.st.v.by_ u.st.v.n u.st.time u.p)
  have HN := fun W n => hid (fN_c W n)
  have HG : ∀ W, Hid (Calls Tryz.prog 164 #[.bool u.dead] W (Ret (.int .i64 (flagZ u.dead)) W)) := fun W => flag_c W u.dead
  have HE := hid (Ext.alloc w (.cells #[.int .i64 u.item.by_, .int .i64 u.item.n, .int .i64 u.st.v.by_, .int .i64 u.st.v.n, .int .i64 u.st.time, .string u.p, .int .i64 u.size, .bool u.dead] 66))
  have HB := hid (Blk.new w 66 #[.int .i64 u.item.by_, .int .i64 u.item.n, .int .i64 u.st.v.by_, .int .i64 u.st.v.n, .int .i64 u.st.time, .string u.p, .int .i64 u.size, .bool u.dead])
  unfold MetaI.val at HC ⊢
  clear hm e0 hok htot
  go_enter Tryz.func131, Tryz.ntmps131
  go_wp2_with fail
  generalize w.alloc (.cells #[.int .i64 u.item.by_, .int .i64 u.item.n, .int .i64 u.st.v.by_, .int .i64 u.st.v.n, .int .i64 u.st.time, .string u.p, .int .i64 u.size, .bool u.dead] 66) = w0 at HE HB ⊢
  refine ((HC _ HE.out).out).mono ?_
  rintro e w1 ⟨rfl, x1⟩
  have X1 := hid (HE.out.trans x1)
  have HB1 := hid (HB.out.ext x1)
  clear x1 HC HB
  have b0 := HB1.out.cell (i := 0) (v := .int .i64 u.item.by_) rfl
  have b1 := HB1.out.cell (i := 1) (v := .int .i64 u.item.n) rfl
  have b2 := HB1.out.cell (i := 2) (v := .int .i64 u.st.v.by_) rfl
  have b3 := HB1.out.cell (i := 3) (v := .int .i64 u.st.v.n) rfl
  have b4 := HB1.out.cell (i := 4) (v := .int .i64 u.st.time) rfl
  have b5 := HB1.out.cell (i := 5) (v := .string u.p) rfl
  have b6 := HB1.out.cell (i := 6) (v := .int .i64 u.size) rfl
  have b7 := HB1.out.cell (i := 7) (v := .bool u.dead) rfl
  have bl := HB1.out.lt
  go_wp2_with fail
  refine wp_region_tail (pre := ?pre14) (tl := ?tl14) 15 ?hpre14 ?htl14 (of_decide_eq_true (by kernel_rfl)) (by kernel_rfl) (by kernel_rfl) (by kernel_rfl) (by kernel_rfl) ?_
  case hpre14 => (simp only [List.take_succ_cons, List.take_zero]; first | done | exact rfl)
  case htl14 => (simp only [List.drop_succ_cons, List.drop_zero]; first | done | exact rfl)
  repeat (first
    | (refine AWq.val rfl rfl rfl rfl (fun K hK => ?_); go_big_quiet_op; refine hK _ ?_; clear hK K)
    | (refine AWq.skip rfl rfl rfl ?_; simp only [Act.put, List.setIfInBounds_toArray, List.set_cons_succ, List.set_cons_zero])
    | (refine AWq.call rfl Tryz.func101 (by kernel_rfl) (by kernel_rfl) rfl rfl rfl ?_; apply Exists.intro; refine And.intro (fun wc hc => ?_) ?_; (· (simp only [argsOf, anyAt, ↓reduceIte, Nat.reduceEqDiff, Array.getD_eq_getD_getElem?, List.getElem?_toArray, List.getElem?_cons_succ, List.getElem?_cons_zero, Option.getD_some]; with_reducible exact (HN _ _).out)); simp only [Act.put, List.setIfInBounds_toArray, List.set_cons_succ, List.set_cons_zero])
    | (refine AWq.call rfl Tryz.func164 (by kernel_rfl) (by kernel_rfl) rfl rfl rfl ?_; apply Exists.intro; refine And.intro (fun wc hc => ?_) ?_; (· (simp only [argsOf, anyAt, ↓reduceIte, Nat.reduceEqDiff, Array.getD_eq_getD_getElem?, List.getElem?_toArray, List.getElem?_cons_succ, List.getElem?_cons_zero, Option.getD_some]; with_reducible exact (HG _).out)); simp only [Act.put, List.setIfInBounds_toArray, List.set_cons_succ, List.set_cons_zero])
    | (refine AWq.callQ ((fun v W => OwnF [fN u.item.by_, fN u.item.n, fN u.st.v.by_, fN u.st.v.n, fN u.st.time, fT u.p] w1.heap.size v W)) ((fun v _ _ he h => OwnF.ext h he)) rfl Tryz.func163 (by kernel_rfl) (by kernel_rfl) rfl rfl rfl (fun wc hc => ?_) ?_; (· (simp only [argsOf, anyAt, ↓reduceIte, Nat.reduceEqDiff, Array.getD_eq_getD_getElem?, List.getElem?_toArray, List.getElem?_cons_succ, List.getElem?_cons_zero, Option.getD_some]; exact ((HS wc).out).mono fun e w' ⟨v, e1, e2, e3⟩ => ⟨v, e1, e2.weak hc.size, e3⟩)))
    | (refine AWq.opV (fun v W => OwnF [fN u.size, fN (flagZ u.dead)] w1.heap.size v W) (fun v _ _ he h => OwnF.ext h he) rfl rfl rfl rfl (fun wc hc => ?_) ?_; (· (have hc2 := hc.size; have hc' := hc.rule; clear hc; go_simp; dsimp only [Gives]; exact ⟨own_two wc hc2 (fN u.size) (fN (flagZ u.dead)), Ext.alloc _ _⟩))))
  refine AWq.tail rfl rfl rfl (fun w2 x2 => ?_)
  simp only [closeAny, Act.put, List.setIfInBounds_toArray, List.set_cons_succ, List.set_cons_zero]
  intro v21 h21 v13 h13
  obtain ⟨v3, w3, hrun, hO3, hk3⟩ := h13.app x2.size h21.sl (by simp) (by simp)
  have HE3 : Hid (Ext w1 w3) := hk3.toExt x2 fun q hq => (row_block h13 q hq).1
  have HS3 : Hid (Sl w3 3 v3 ((metF u).map FldI.cells)) := hO3.sl
  obtain ⟨A3, c3, rfl, _⟩ := sl_get HS3.out
  clear hO3 hk3 h13 h21 b0 b1 b2 b3 b4 b5 b6 b7 bl
  at_builtin
  refine wpList_app rfl (.tmp 13) (.tmp 21) _ _ rfl rfl rfl hrun ?_
  go_wp2_with fail
  refine ((HL _ _ HS3.out).out).mono ?_
  rintro e w4 ⟨rfl, x4⟩
  go_wp2_with fail
  go_ret2
  exact ⟨rfl, (X1.out.trans HE3.out).trans x4⟩
end Go.Proofs.YtmbgakjkhgdjnaaGreatDoor
namespace Go.Proofs.YtmbgakjkhgdjnaaGreatDoor
set_option linter.unusedSimpArgs false
set_option linter.unusedVariables false
open Go.RowKit

def UpdI.in64 (u : UpdI) : Prop := Go.Proofs.YtmbgakjkhgdjnaaGreatDoor.in64 u.item.by_ ∧ Go.Proofs.YtmbgakjkhgdjnaaGreatDoor.in64 u.item.n ∧ Go.Proofs.YtmbgakjkhgdjnaaGreatDoor.in64 u.st.v.by_ ∧ Go.Proofs.YtmbgakjkhgdjnaaGreatDoor.in64 u.st.v.n ∧ Go.Proofs.YtmbgakjkhgdjnaaGreatDoor.in64 u.st.time
def bitB (b : Bool) : ByteArray := if b then ⟨#[1]⟩ else ⟨#[0]⟩
def updB (u : UpdI) : ByteArray := verB u.item ++ verB u.st.v ++ numB u.st.time ++ textB u.p ++ textB u.d ++ bitB u.dead
set_option maxRecDepth 100000 in
set_option maxHeartbeats 4000000 in
theorem rupd_c (w : World) (u : UpdI) (hi : u.in64) (hp : u.p.size ≤ 100000) (hd : u.d.size ≤ 100000) : Calls Tryz.prog 75 #[u.val] w (Ret (.string (updB u)) w) := by
  obtain ⟨i1, i2, i3, i4, i5⟩ := hi
  have HV1 := fun W => hid (rver_c W u.item i1 i2)
  have HV2 := fun W => hid (rver_c W u.st.v i3 i4)
  have HNu := fun W => hid (rnumberZ_c W u.st.time i5.1 i5.2)
  have HT1 := fun W => hid (rtext_c W u.p hp)
  have HT2 := fun W => hid (rtext_c W u.d hd)
  have HBi : ∀ W, Hid (Calls Tryz.prog 126 #[.bool u.dead] W (Ret (.string (bitB u.dead)) W)) := fun W => rbit_c W u.dead
  have s1 := verB_18 i1 i2
  have s2 := verB_18 i3 i4
  have s3 := numB_9 i5.2
  have s4 := textB_le u.p hp
  have s5 := textB_le u.d hd
  have s6 : (bitB u.dead).size ≤ 1 := by cases u.dead <;> decide
  have HE := hid (Ext.alloc w (.cells #[.int .i64 u.item.by_, .int .i64 u.item.n, .int .i64 u.st.v.by_, .int .i64 u.st.v.n, .int .i64 u.st.time, .string u.p, .string u.d, .bool u.dead] 64))
  have HB := hid (Blk.new w 64 #[.int .i64 u.item.by_, .int .i64 u.item.n, .int .i64 u.st.v.by_, .int .i64 u.st.v.n, .int .i64 u.st.time, .string u.p, .string u.d, .bool u.dead])
  simp only [Ver.val] at HV1 HV2
  unfold UpdI.val updB
  generalize verB u.item = e1 at HV1 s1 ⊢
  generalize verB u.st.v = e2 at HV2 s2 ⊢
  generalize numB u.st.time = e3 at HNu s3 ⊢
  generalize textB u.p = e4 at HT1 s4 ⊢
  generalize textB u.d = e5 at HT2 s5 ⊢
  generalize bitB u.dead = e6 at HBi s6 ⊢
  clear i1 i2 i3 i4 i5
  go_enter Tryz.func75, Tryz.ntmps75
  go_wp2_with fail
  generalize w.alloc (.cells #[.int .i64 u.item.by_, .int .i64 u.item.n, .int .i64 u.st.v.by_, .int .i64 u.st.v.n, .int .i64 u.st.time, .string u.p, .string u.d, .bool u.dead] 64) = w0 at HE HB ⊢
  have b0 := HB.out.cell (i := 0) (v := .int .i64 u.item.by_) rfl
  have b1 := HB.out.cell (i := 1) (v := .int .i64 u.item.n) rfl
  have b2 := HB.out.cell (i := 2) (v := .int .i64 u.st.v.by_) rfl
  have b3 := HB.out.cell (i := 3) (v := .int .i64 u.st.v.n) rfl
  have b4 := HB.out.cell (i := 4) (v := .int .i64 u.st.time) rfl
  have b5 := HB.out.cell (i := 5) (v := .string u.p) rfl
  have b6 := HB.out.cell (i := 6) (v := .string u.d) rfl
  have b7 := HB.out.cell (i := 7) (v := .bool u.dead) rfl
  have bl := HB.out.lt
  refine wp_region_any_order (by kernel_rfl) (by kernel_rfl) (by kernel_rfl) ?_
  repeat (first
    | (refine AWq.val rfl rfl rfl rfl (fun K hK => ?_); go_big_quiet_op; refine hK _ ?_; clear hK K)
    | (refine AWq.skip rfl rfl rfl ?_; simp only [Act.put, List.setIfInBounds_toArray, List.set_cons_succ, List.set_cons_zero])
    | (refine AWq.call rfl Tryz.func52 (by kernel_rfl) (by kernel_rfl) rfl rfl rfl ?_; apply Exists.intro; refine And.intro (fun wc hc => ?_) ?_; (· (simp only [argsOf, anyAt, ↓reduceIte, Nat.reduceEqDiff, Array.getD_eq_getD_getElem?, List.getElem?_toArray, List.getElem?_cons_succ, List.getElem?_cons_zero, Option.getD_some]; with_reducible exact (HV1 _).out)); simp only [Act.put, List.setIfInBounds_toArray, List.set_cons_succ, List.set_cons_zero])
    | (refine AWq.call rfl Tryz.func52 (by kernel_rfl) (by kernel_rfl) rfl rfl rfl ?_; apply Exists.intro; refine And.intro (fun wc hc => ?_) ?_; (· (simp only [argsOf, anyAt, ↓reduceIte, Nat.reduceEqDiff, Array.getD_eq_getD_getElem?, List.getElem?_toArray, List.getElem?_cons_succ, List.getElem?_cons_zero, Option.getD_some]; with_reducible exact (HV2 _).out)); simp only [Act.put, List.setIfInBounds_toArray, List.set_cons_succ, List.set_cons_zero])
    | (refine AWq.call rfl Tryz.func47 (by kernel_rfl) (by kernel_rfl) rfl rfl rfl ?_; apply Exists.intro; refine And.intro (fun wc hc => ?_) ?_; (· (simp only [argsOf, anyAt, ↓reduceIte, Nat.reduceEqDiff, Array.getD_eq_getD_getElem?, List.getElem?_toArray, List.getElem?_cons_succ, List.getElem?_cons_zero, Option.getD_some]; with_reducible exact (HNu _).out)); simp only [Act.put, List.setIfInBounds_toArray, List.set_cons_succ, List.set_cons_zero])
    | (refine AWq.call rfl Tryz.func48 (by kernel_rfl) (by kernel_rfl) rfl rfl rfl ?_; apply Exists.intro; refine And.intro (fun wc hc => ?_) ?_; (· (simp only [argsOf, anyAt, ↓reduceIte, Nat.reduceEqDiff, Array.getD_eq_getD_getElem?, List.getElem?_toArray, List.getElem?_cons_succ, List.getElem?_cons_zero, Option.getD_some]; with_reducible exact (HT1 _).out)); simp only [Act.put, List.setIfInBounds_toArray, List.set_cons_succ, List.set_cons_zero])
    | (refine AWq.call rfl Tryz.func48 (by kernel_rfl) (by kernel_rfl) rfl rfl rfl ?_; apply Exists.intro; refine And.intro (fun wc hc => ?_) ?_; (· (simp only [argsOf, anyAt, ↓reduceIte, Nat.reduceEqDiff, Array.getD_eq_getD_getElem?, List.getElem?_toArray, List.getElem?_cons_succ, List.getElem?_cons_zero, Option.getD_some]; with_reducible exact (HT2 _).out)); simp only [Act.put, List.setIfInBounds_toArray, List.set_cons_succ, List.set_cons_zero])
    | (refine AWq.call rfl Tryz.func126 (by kernel_rfl) (by kernel_rfl) rfl rfl rfl ?_; apply Exists.intro; refine And.intro (fun wc hc => ?_) ?_; (· (simp only [argsOf, anyAt, ↓reduceIte, Nat.reduceEqDiff, Array.getD_eq_getD_getElem?, List.getElem?_toArray, List.getElem?_cons_succ, List.getElem?_cons_zero, Option.getD_some]; with_reducible exact (HBi _).out)); simp only [Act.put, List.setIfInBounds_toArray, List.set_cons_succ, List.set_cons_zero]))
  refine AWq.done rfl rfl rfl (fun w2 x2 => ?_)
  simp only [closeAny, Act.put, List.setIfInBounds_toArray, List.set_cons_succ, List.set_cons_zero]
  go_wp2_with fail
  go_ret
  exact ⟨rfl, HE.out.trans x2⟩
end Go.Proofs.YtmbgakjkhgdjnaaGreatDoor
namespace Go.Proofs.YtmbgakjkhgdjnaaGreatDoor
set_option linter.unusedSimpArgs false
set_option linter.unusedVariables false
open Go.RowKit

theorem bitB_list (b : Bool) : (bitB b).data.toList = lebL (flagZ b).toNat := by
  cases b
  · show [0] = lebL 0
    rw [lebL_small (by omega)]; rfl
  · show [1] = lebL 1
    rw [lebL_small (by omega)]; rfl
theorem upd_enc {u : UpdI} (h1 : 0 ≤ u.item.by_) (h2 : 0 ≤ u.item.n) (h3 : 0 ≤ u.st.v.by_) (h4 : 0 ≤ u.st.v.n) (h5 : 0 ≤ u.st.time) : (⟨(encL (updF u)).toArray⟩ : ByteArray) = updB u := by
  apply ByteArray.ext
  apply Array.ext'
  unfold updB verB
  simp only [ByteArray.data_append, Array.toList_append, numB_list h1, numB_list h2, numB_list h3, numB_list h4, numB_list h5, textB_list, bitB_list]
  simp [encL, updF, fN, fT, FldI.enc]
end Go.Proofs.YtmbgakjkhgdjnaaGreatDoor
namespace Go.Proofs.YtmbgakjkhgdjnaaGreatDoor
set_option linter.unusedSimpArgs false
set_option linter.unusedVariables false
open Go.RowKit

def MetaI.in64 (u : MetaI) : Prop := Go.Proofs.YtmbgakjkhgdjnaaGreatDoor.in64 u.item.by_ ∧ Go.Proofs.YtmbgakjkhgdjnaaGreatDoor.in64 u.item.n ∧ Go.Proofs.YtmbgakjkhgdjnaaGreatDoor.in64 u.st.v.by_ ∧ Go.Proofs.YtmbgakjkhgdjnaaGreatDoor.in64 u.st.v.n ∧ Go.Proofs.YtmbgakjkhgdjnaaGreatDoor.in64 u.st.time
def metB (u : MetaI) : ByteArray := verB u.item ++ verB u.st.v ++ numB u.st.time ++ textB u.p ++ numB u.size ++ bitB u.dead
set_option maxRecDepth 100000 in
set_option maxHeartbeats 4000000 in
theorem rmet_c (w : World) (u : MetaI) (hi : u.in64) (hp : u.p.size ≤ 100000) (hd : in64 u.size) : Calls Tryz.prog 76 #[u.val] w (Ret (.string (metB u)) w) := by
  obtain ⟨i1, i2, i3, i4, i5⟩ := hi
  have HV1 := fun W => hid (rver_c W u.item i1 i2)
  have HV2 := fun W => hid (rver_c W u.st.v i3 i4)
  have HNu := fun W => hid (rnumberZ_c W u.st.time i5.1 i5.2)
  have HT1 := fun W => hid (rtext_c W u.p hp)
  have HT2 := fun W => hid (rnumberZ_c W u.size hd.1 hd.2)
  have HBi : ∀ W, Hid (Calls Tryz.prog 126 #[.bool u.dead] W (Ret (.string (bitB u.dead)) W)) := fun W => rbit_c W u.dead
  have s1 := verB_18 i1 i2
  have s2 := verB_18 i3 i4
  have s3 := numB_9 i5.2
  have s4 := textB_le u.p hp
  have s5 := numB_9 hd.2
  have s6 : (bitB u.dead).size ≤ 1 := by cases u.dead <;> decide
  have HE := hid (Ext.alloc w (.cells #[.int .i64 u.item.by_, .int .i64 u.item.n, .int .i64 u.st.v.by_, .int .i64 u.st.v.n, .int .i64 u.st.time, .string u.p, .int .i64 u.size, .bool u.dead] 66))
  have HB := hid (Blk.new w 66 #[.int .i64 u.item.by_, .int .i64 u.item.n, .int .i64 u.st.v.by_, .int .i64 u.st.v.n, .int .i64 u.st.time, .string u.p, .int .i64 u.size, .bool u.dead])
  simp only [Ver.val] at HV1 HV2
  unfold MetaI.val metB
  generalize verB u.item = e1 at HV1 s1 ⊢
  generalize verB u.st.v = e2 at HV2 s2 ⊢
  generalize numB u.st.time = e3 at HNu s3 ⊢
  generalize textB u.p = e4 at HT1 s4 ⊢
  generalize numB u.size = e5 at HT2 s5 ⊢
  generalize bitB u.dead = e6 at HBi s6 ⊢
  clear i1 i2 i3 i4 i5 hd
  go_enter Tryz.func76, Tryz.ntmps76
  go_wp2_with fail
  generalize w.alloc (.cells #[.int .i64 u.item.by_, .int .i64 u.item.n, .int .i64 u.st.v.by_, .int .i64 u.st.v.n, .int .i64 u.st.time, .string u.p, .int .i64 u.size, .bool u.dead] 66) = w0 at HE HB ⊢
  have b0 := HB.out.cell (i := 0) (v := .int .i64 u.item.by_) rfl
  have b1 := HB.out.cell (i := 1) (v := .int .i64 u.item.n) rfl
  have b2 := HB.out.cell (i := 2) (v := .int .i64 u.st.v.by_) rfl
  have b3 := HB.out.cell (i := 3) (v := .int .i64 u.st.v.n) rfl
  have b4 := HB.out.cell (i := 4) (v := .int .i64 u.st.time) rfl
  have b5 := HB.out.cell (i := 5) (v := .string u.p) rfl
  have b6 := HB.out.cell (i := 6) (v := .int .i64 u.size) rfl
  have b7 := HB.out.cell (i := 7) (v := .bool u.dead) rfl
  have bl := HB.out.lt
  refine wp_region_any_order (by kernel_rfl) (by kernel_rfl) (by kernel_rfl) ?_
  repeat (first
    | (refine AWq.val rfl rfl rfl rfl (fun K hK => ?_); go_big_quiet_op; refine hK _ ?_; clear hK K)
    | (refine AWq.skip rfl rfl rfl ?_; simp only [Act.put, List.setIfInBounds_toArray, List.set_cons_succ, List.set_cons_zero])
    | (refine AWq.call rfl Tryz.func52 (by kernel_rfl) (by kernel_rfl) rfl rfl rfl ?_; apply Exists.intro; refine And.intro (fun wc hc => ?_) ?_; (· (simp only [argsOf, anyAt, ↓reduceIte, Nat.reduceEqDiff, Array.getD_eq_getD_getElem?, List.getElem?_toArray, List.getElem?_cons_succ, List.getElem?_cons_zero, Option.getD_some]; with_reducible exact (HV1 _).out)); simp only [Act.put, List.setIfInBounds_toArray, List.set_cons_succ, List.set_cons_zero])
    | (refine AWq.call rfl Tryz.func52 (by kernel_rfl) (by kernel_rfl) rfl rfl rfl ?_; apply Exists.intro; refine And.intro (fun wc hc => ?_) ?_; (· (simp only [argsOf, anyAt, ↓reduceIte, Nat.reduceEqDiff, Array.getD_eq_getD_getElem?, List.getElem?_toArray, List.getElem?_cons_succ, List.getElem?_cons_zero, Option.getD_some]; with_reducible exact (HV2 _).out)); simp only [Act.put, List.setIfInBounds_toArray, List.set_cons_succ, List.set_cons_zero])
    | (refine AWq.call rfl Tryz.func47 (by kernel_rfl) (by kernel_rfl) rfl rfl rfl ?_; apply Exists.intro; refine And.intro (fun wc hc => ?_) ?_; (· (simp only [argsOf, anyAt, ↓reduceIte, Nat.reduceEqDiff, Array.getD_eq_getD_getElem?, List.getElem?_toArray, List.getElem?_cons_succ, List.getElem?_cons_zero, Option.getD_some]; with_reducible exact (HNu _).out)); simp only [Act.put, List.setIfInBounds_toArray, List.set_cons_succ, List.set_cons_zero])
    | (refine AWq.call rfl Tryz.func48 (by kernel_rfl) (by kernel_rfl) rfl rfl rfl ?_; apply Exists.intro; refine And.intro (fun wc hc => ?_) ?_; (· (simp only [argsOf, anyAt, ↓reduceIte, Nat.reduceEqDiff, Array.getD_eq_getD_getElem?, List.getElem?_toArray, List.getElem?_cons_succ, List.getElem?_cons_zero, Option.getD_some]; with_reducible exact (HT1 _).out)); simp only [Act.put, List.setIfInBounds_toArray, List.set_cons_succ, List.set_cons_zero])
    | (refine AWq.call rfl Tryz.func47 (by kernel_rfl) (by kernel_rfl) rfl rfl rfl ?_; apply Exists.intro; refine And.intro (fun wc hc => ?_) ?_; (· (simp only [argsOf, anyAt, ↓reduceIte, Nat.reduceEqDiff, Array.getD_eq_getD_getElem?, List.getElem?_toArray, List.getElem?_cons_succ, List.getElem?_cons_zero, Option.getD_some]; with_reducible exact (HT2 _).out)); simp only [Act.put, List.setIfInBounds_toArray, List.set_cons_succ, List.set_cons_zero])
    | (refine AWq.call rfl Tryz.func126 (by kernel_rfl) (by kernel_rfl) rfl rfl rfl ?_; apply Exists.intro; refine And.intro (fun wc hc => ?_) ?_; (· (simp only [argsOf, anyAt, ↓reduceIte, Nat.reduceEqDiff, Array.getD_eq_getD_getElem?, List.getElem?_toArray, List.getElem?_cons_succ, List.getElem?_cons_zero, Option.getD_some]; with_reducible exact (HBi _).out)); simp only [Act.put, List.setIfInBounds_toArray, List.set_cons_succ, List.set_cons_zero]))
  refine AWq.done rfl rfl rfl (fun w2 x2 => ?_)
  simp only [closeAny, Act.put, List.setIfInBounds_toArray, List.set_cons_succ, List.set_cons_zero]
  go_wp2_with fail
  go_ret
  exact ⟨rfl, HE.out.trans x2⟩
theorem met_enc {u : MetaI} (h1 : 0 ≤ u.item.by_) (h2 : 0 ≤ u.item.n) (h3 : 0 ≤ u.st.v.by_) (h4 : 0 ≤ u.st.v.n) (h5 : 0 ≤ u.st.time) (h6 : 0 ≤ u.size) : (⟨(encL (metF u)).toArray⟩ : ByteArray) = metB u := by
  apply ByteArray.ext
  apply Array.ext'
  unfold metB verB
  simp only [ByteArray.data_append, Array.toList_append, numB_list h1, numB_list h2, numB_list h3, numB_list h4, numB_list h5, numB_list h6, textB_list, bitB_list]
  simp [encL, metF, fN, fT, FldI.enc]
end Go.Proofs.YtmbgakjkhgdjnaaGreatDoor
namespace Go.Proofs.YtmbgakjkhgdjnaaGreatDoor
set_option linter.unusedSimpArgs false
set_option linter.unusedVariables false
open Go.RowKit

theorem chk_right (u : UpdI) : u.chk = 0 ↔ rightU u = true := by
  unfold UpdI.chk chkK rightU rightS
  cases h1 : rightV u.item <;> cases h2 : rightV u.st.v <;> cases h3 : decide (1 ≤ u.st.time) <;> cases h4 : Pa.rightK u.p <;> simp
  by_cases h5 : (200 : Int) < u.d.size
  · rw [if_pos h5]
    constructor
    · intro h; cases h
    · intro h; omega
  · rw [if_neg h5]
    have hs := size_pos u.d
    by_cases h6 : u.dead = true ∧ 0 < u.d.size
    · rw [if_pos (.inr h6)]
      have h7 := hs.1 (by have := h6.2; omega)
      have h8 := h6.1
      constructor
      · intro h; cases h
      · rintro ⟨_, h⟩
        rcases h with h | h
        · rw [h8] at h; cases h
        · rw [h] at h7; cases h7
    · rw [if_neg (by rintro (h | h); omega; exact h6 h)]
      refine ⟨fun _ => ⟨by omega, ?_⟩, fun _ => rfl⟩
      cases hd : u.dead with
      | false => exact .inl rfl
      | true =>
        right
        cases he : u.d.toList.isEmpty with
        | true => exact List.isEmpty_iff.1 he
        | false => exact absurd ⟨hd, by have := hs.2 he; omega⟩ h6
structure Rightful (u : UpdI) : Prop where
  b0 : 0 ≤ u.item.by_
  n0 : 0 ≤ u.item.n
  b1 : 0 ≤ u.st.v.by_
  n1 : 0 ≤ u.st.v.n
  t0 : 0 ≤ u.st.time
  p : u.p.size ≤ 40
  d : u.d.size ≤ 200
theorem path_40 {s : ByteArray} (h : Pa.rightK s = true) : s.size ≤ 40 := by
  unfold Pa.rightK at h
  simp only [Bool.and_eq_true, decide_eq_true_eq] at h
  exact h.1.2
theorem rightful {u : UpdI} (h : rightU u = true) : Rightful u := by
  unfold rightU rightV at h
  simp only [Bool.and_eq_true, decide_eq_true_eq] at h
  obtain ⟨⟨a1, a2, a3⟩, ⟨b1, b2, b3⟩, c, d, e, _⟩ := h
  exact ⟨by omega, by omega, by omega, by omega, by omega, path_40 d, by omega⟩
theorem bitB_one (b : Bool) : (bitB b).size = 1 := by cases b <;> rfl
theorem flagZ_in (b : Bool) : 0 ≤ flagZ b ∧ flagZ b ≤ 1 := by cases b <;> simp [flagZ]
theorem updB_size {u : UpdI} (hi : u.in64) (h : Rightful u) : (updB u).size ≤ 400 := by
  obtain ⟨i1, i2, i3, i4, i5⟩ := hi
  have a1 := verB_18 i1 i2
  have a2 := verB_18 i3 i4
  have a3 := numB_9 i5.2
  have a4 := textB_le u.p (by have := h.p; omega)
  have a5 := textB_le u.d (by have := h.d; omega)
  have a6 := bitB_one u.dead
  have := h.p
  have := h.d
  unfold updB
  simp only [ByteArray.size_append]
  omega
theorem putU_c (w : World) (u : UpdI) (m : Int) (hm : w.cell? ⟨0, 0, none⟩ = some (.int .i64 m)) (hu : u.p.size ≤ 90000) (hi : u.in64) : Calls Tryz.prog 130 #[u.val] w (Ret (.tuple #[.string (putB (rightU u) (updB u)), .int .i64 (okZ (rightU u))]) w) := by
  cases hr : rightU u with
  | false => exact putU_no w u m hm hu fun h => by rw [(chk_right u).1 h] at hr; cases hr
  | true =>
    have hf := rightful hr
    have he := upd_enc hf.b0 hf.n0 hf.b1 hf.n1 hf.t0
    have hy := putU_yes w u m hm hu ((chk_right u).2 hr) (fun f h => by
      obtain ⟨i1, i2, i3, i4, i5⟩ := hi
      have h1 := hf.b0; have h2 := hf.n0; have h3 := hf.b1; have h4 := hf.n1; have h5 := hf.t0; have h6 := hf.p; have h7 := hf.d
      have h8 := flagZ_in u.dead
      simp only [updF, List.mem_cons, List.not_mem_nil, or_false] at h
      rcases h with rfl | rfl | rfl | rfl | rfl | rfl | rfl | rfl
      · exact ⟨Nat.zero_le _, fun _ => h1, i1.2⟩
      · exact ⟨Nat.zero_le _, fun _ => h2, i2.2⟩
      · exact ⟨Nat.zero_le _, fun _ => h3, i3.2⟩
      · exact ⟨Nat.zero_le _, fun _ => h4, i4.2⟩
      · exact ⟨Nat.zero_le _, fun _ => h5, i5.2⟩
      · exact ⟨by show u.p.size ≤ _; omega, fun h => (by (have h : true = false := h); cases h), by show (0 : Int) ≤ _; omega⟩
      · exact ⟨by show u.d.size ≤ _; omega, fun h => (by (have h : true = false := h); cases h), by show (0 : Int) ≤ _; omega⟩
      · exact ⟨Nat.zero_le _, fun _ => h8.1, by show flagZ u.dead ≤ _; omega⟩) (by
      have h1 := updB_size hi hf
      rw [← he] at h1
      have h2 : (encL (updF u)).length = (⟨(encL (updF u)).toArray⟩ : ByteArray).size := rfl
      omega)
    rw [he] at hy
    exact hy
def rightM (u : MetaI) : Bool := decide (u.chk = 0)
structure RightfulM (u : MetaI) : Prop where
  b0 : 0 ≤ u.item.by_
  n0 : 0 ≤ u.item.n
  b1 : 0 ≤ u.st.v.by_
  n1 : 0 ≤ u.st.v.n
  t0 : 0 ≤ u.st.time
  p : u.p.size ≤ 40
  d : 0 ≤ u.size ∧ u.size ≤ 200
theorem rightfulM {u : MetaI} (h : u.chk = 0) : RightfulM u := by
  unfold MetaI.chk chkK at h
  by_cases h1 : rightV u.item = false ∨ rightS u.st = false
  · rw [if_pos h1] at h; cases h
  rw [if_neg h1] at h
  by_cases h2 : Pa.rightK u.p = false
  · rw [if_pos h2] at h; cases h
  rw [if_neg h2] at h
  by_cases h3 : 200 < u.size
  · rw [if_pos h3] at h; cases h
  rw [if_neg h3] at h
  by_cases h4 : u.size < 0 ∨ (u.dead = true ∧ 0 < u.size)
  · rw [if_pos h4] at h; cases h
  simp only [not_or, Bool.not_eq_false] at h1 h2
  obtain ⟨a, b⟩ := h1
  unfold rightS at b
  unfold rightV at a b
  simp only [Bool.and_eq_true, decide_eq_true_eq] at a b
  exact ⟨by omega, by omega, by omega, by omega, by omega, path_40 h2, by omega⟩
theorem metB_size {u : MetaI} (hi : u.in64) (h : RightfulM u) : (metB u).size ≤ 400 := by
  obtain ⟨i1, i2, i3, i4, i5⟩ := hi
  have a1 := verB_18 i1 i2
  have a2 := verB_18 i3 i4
  have a3 := numB_9 i5.2
  have a4 := textB_le u.p (by have := h.p; omega)
  have a5 := numB_9 (z := u.size) (by have := h.d; omega)
  have a6 := bitB_one u.dead
  have := h.p
  unfold metB
  simp only [ByteArray.size_append]
  omega
theorem putM_c (w : World) (u : MetaI) (m : Int) (hm : w.cell? ⟨0, 0, none⟩ = some (.int .i64 m)) (hu : u.p.size ≤ 90000) (hi : u.in64) : Calls Tryz.prog 131 #[u.val] w (Ret (.tuple #[.string (putB (rightM u) (metB u)), .int .i64 (okZ (rightM u))]) w) := by
  by_cases hc : u.chk = 0
  · have hr : rightM u = true := decide_eq_true hc
    rw [hr]
    have hf := rightfulM hc
    have he := met_enc hf.b0 hf.n0 hf.b1 hf.n1 hf.t0 hf.d.1
    have hy := putM_yes w u m hm hu hc (fun f h => by
      obtain ⟨i1, i2, i3, i4, i5⟩ := hi
      have h1 := hf.b0; have h2 := hf.n0; have h3 := hf.b1; have h4 := hf.n1; have h5 := hf.t0; have h6 := hf.p; have h7 := hf.d
      have h8 := flagZ_in u.dead
      simp only [metF, List.mem_cons, List.not_mem_nil, or_false] at h
      rcases h with rfl | rfl | rfl | rfl | rfl | rfl | rfl | rfl
      · exact ⟨Nat.zero_le _, fun _ => h1, i1.2⟩
      · exact ⟨Nat.zero_le _, fun _ => h2, i2.2⟩
      · exact ⟨Nat.zero_le _, fun _ => h3, i3.2⟩
      · exact ⟨Nat.zero_le _, fun _ => h4, i4.2⟩
      · exact ⟨Nat.zero_le _, fun _ => h5, i5.2⟩
      · exact ⟨by show u.p.size ≤ _; omega, fun h => (by (have h : true = false := h); cases h), by show (0 : Int) ≤ _; omega⟩
      · exact ⟨Nat.zero_le _, fun _ => h7.1, by show u.size ≤ _; omega⟩
      · exact ⟨Nat.zero_le _, fun _ => h8.1, by show flagZ u.dead ≤ _; omega⟩) (by
      have h1 := metB_size hi hf
      rw [← he] at h1
      have h2 : (encL (metF u)).length = (⟨(encL (metF u)).toArray⟩ : ByteArray).size := rfl
      omega)
    rw [he] at hy
    exact hy
  · have hr : rightM u = false := decide_eq_false hc
    rw [hr]
    exact putM_no w u m hm hu hc
end Go.Proofs.YtmbgakjkhgdjnaaGreatDoor
