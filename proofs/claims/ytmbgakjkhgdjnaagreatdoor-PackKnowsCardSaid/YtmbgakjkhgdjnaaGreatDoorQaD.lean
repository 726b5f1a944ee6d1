/-
  leb.N, leb.T, pack's lay, ver, flag.
  pack.stamp.
  The document's numbers of whatever number; versions, truths (chapter 17).
  Plain words of chapter 17: numbers of 64 bits, sizes, bytes as lists.
-/
import Derived.Test.YtmbgakjkhgdjnaaGreatDoorQaC
import Derived.Test.YtmbgakjkhgdjnaaGreatDoorQdC
import Derived.Test.YtmbgakjkhgdjnaaGreatDoorStrk
namespace Go.Proofs.YtmbgakjkhgdjnaaGreatDoor
set_option linter.unusedSimpArgs false
set_option linter.unusedVariables false
open Go.RowKit

set_option maxRecDepth 100000 in
set_option maxHeartbeats 1000000 in
theorem fN_c (w : World) (n : Int) : Calls Tryz.prog 101 #[.int .i64 n] w (Ret (.agg #[.int .i64 n, .string ⟨#[]⟩, .bool false]) w) := by
  have HB := hid (Blk.new w 146 #[.int .i64 n, .string ⟨#[]⟩, .bool false])
  have HE := hid (Ext.alloc w (.cells #[.int .i64 n, .string ⟨#[]⟩, .bool false] 146))
  go_enter Tryz.func101, Tryz.ntmps101
  go_wp2_with fail
  exact bodyPost_ret (results_cell_row rfl _ _ w.heap.size 146 _ (0, 0) _ rfl HB.out Tryz.underlying146 rfl (show (Tryz.prog.info? 146).map (·.size) = some 3 by kernel_rfl)) rfl ⟨rfl, HE.out⟩
set_option maxRecDepth 100000 in
set_option maxHeartbeats 1000000 in
theorem fT_c (w : World) (s : ByteArray) : Calls Tryz.prog 99 #[.string s] w (Ret (.agg #[.int .i64 0, .string s, .bool true]) w) := by
  have HB := hid (Blk.new w 146 #[.int .i64 0, .string s, .bool true])
  have HE := hid (Ext.alloc w (.cells #[.int .i64 0, .string s, .bool true] 146))
  go_enter Tryz.func99, Tryz.ntmps99
  go_wp2_with fail
  exact bodyPost_ret (results_cell_row rfl _ _ w.heap.size 146 _ (0, 0) _ rfl HB.out Tryz.underlying146 rfl (show (Tryz.prog.info? 146).map (·.size) = some 3 by kernel_rfl)) rfl ⟨rfl, HE.out⟩
set_option maxRecDepth 100000 in
set_option maxHeartbeats 1000000 in
theorem play_c (w : World) (v : Value) (l : List FldI) (h : Sl w 3 v (l.map FldI.cells)) (hok : ∀ f ∈ l, f.ok) (hpos : 0 < l.length) (htot : (encL l).length ≤ 65536) : Calls Tryz.prog 100 #[v] w (Ret (.string ⟨(encL l).toArray⟩) w) := by
  have HL := hid (lay_c w v l h hok hpos htot)
  obtain ⟨A, c, rfl, _⟩ := sl_get h
  clear h hok
  go_enter Tryz.func100, Tryz.ntmps100
  go_wp2_with fail
  refine (HL.out).mono ?_
  rintro e w1 ⟨rfl, x1⟩
  go_wp2_with fail
  go_ret
  exact ⟨rfl, x1⟩
set_option maxHeartbeats 1000000 in
theorem flag_c (w : World) (b : Bool) : Calls Tryz.prog 164 #[.bool b] w (Ret (.int .i64 (if b then 1 else 0)) w) := by
  cases b
  all_goals
    go_enter Tryz.func164, Tryz.ntmps164
    go_wp2_with fail
    go_ret
    exact ⟨rfl, Ext.refl _⟩
/-- A number's field. -/
def fN (n : Int) : FldI := ⟨n, ⟨#[]⟩, false⟩
/-- A text's field. -/
def fT (s : ByteArray) : FldI := ⟨0, s, true⟩
/-- A row of fields of one's own, made since. -/
def OwnF (l : List FldI) (B : Nat) (v : Value) (w : World) : Prop := w.ownsRow B 146 3 v l.length (l.map FldI.cells).flatten
theorem OwnF.sl {l : List FldI} {B : Nat} {v : Value} {w : World} (h : OwnF l B v w) : Sl w 3 v (l.map FldI.cells) :=
  sl_of_row (xs := l.map FldI.cells) (fld_coded.sizes _) (by rw [List.length_map]; exact h)
theorem OwnF.ext {l : List FldI} {B : Nat} {v : Value} {w w' : World} (h : OwnF l B v w) (he : Ext w w') : OwnF l B v w' := ownsRow_ext h he
theorem OwnF.weak {l : List FldI} {B B' : Nat} {v : Value} {w : World} (h : OwnF l B v w) (hB : B' ≤ B) : OwnF l B' v w := ownsRow_mono h hB
theorem own_two (w : World) {B : Nat} (hB : B ≤ w.heap.size) (a b : FldI) : OwnF [a, b] B (.slice (some ⟨w.heap.size, 0, none⟩) 2 2) (w.alloc (.cells #[.int .i64 a.n, .string a.s, .bool a.t, .int .i64 b.n, .string b.s, .bool b.t] 146)) :=
  own_lit hB 146 3 2 #[.int .i64 a.n, .string a.s, .bool a.t, .int .i64 b.n, .string b.s, .bool b.t] (by unfold maxLen; omega) rfl
theorem fld_info : (Tryz.prog.info? 146).map (fun i => (i.zero, i.size, i.bytes)) = some (some (.agg #[.int .i64 0, .string ⟨#[]⟩, .bool false]), 3, 32) := by kernel_rfl
theorem fld_elem : Elem Tryz.prog 125 146 3 32 := by
  obtain ⟨i0, h0, h1, h2, h3⟩ := info_parts fld_info
  exact ⟨Tryz.underlying125, i0, _, h0, h1, h2, h3, rfl⟩
/-- append(l, m...). -/
theorem OwnF.app {l m : List FldI} {B : Nat} {v u : Value} {w : World} (h : OwnF l B v w) (hB : B ≤ w.heap.size) (hm : Sl w 3 u (m.map FldI.cells)) (hl : l.length ≤ 100000) (hml : m.length ≤ 100000) : ∃ v' w', (Builtin.append_ #[125, 125] 125 #[v, u]).run Tryz.prog w = .ok v' w' ∧ OwnF (l ++ m) B v' w' ∧ Keep (fun q => v.ownBlock = some q) w w' := by
  obtain ⟨v', w', hr, ho, hk, _, _⟩ := app_row (ty := 125) fld_elem h hB (src_of_sl Tryz.underlying125 fld_coded hm (Ext.refl w)) (by unfold maxLen; omega) (by omega)
  refine ⟨v', w', hr, ?_, hk⟩
  unfold OwnF
  rw [List.length_append, List.map_append, List.flatten_append]
  exact ho
set_option maxRecDepth 100000 in
set_option maxHeartbeats 2000000 in
theorem pver_c (w : World) (v : Ver) : Calls Tryz.prog 104 #[v.val] w (RetQ (fun u W => OwnF [fN v.by_, fN v.n] w.heap.size u W ∧ ∃ q, u = .slice (some ⟨q, 0, none⟩) 2 2) w) := by
  have HN := fun W n => hid (fN_c W n)
  have HB := hid (Blk.new w 60 #[.int .i64 v.by_, .int .i64 v.n])
  have HE := hid (Ext.alloc w (.cells #[.int .i64 v.by_, .int .i64 v.n] 60))
  unfold Ver.val
  go_enter Tryz.func104, Tryz.ntmps104
  go_wp2_with fail
  have hw := HE.out.size
  generalize w.alloc (.cells #[.int .i64 v.by_, .int .i64 v.n] 60) = w0 at HB HE hw ⊢
  have HWs := hid hw
  have b0 := HB.out.cell (i := 0) (v := .int .i64 v.by_) rfl
  have b1 := HB.out.cell (i := 1) (v := .int .i64 v.n) rfl
  have bl := HB.out.lt
  clear hw
  refine wp_region_any_order (by kernel_rfl) (by kernel_rfl) (by kernel_rfl) ?_
  repeat (first
    | (refine AWq.val rfl rfl rfl rfl (fun K hK => ?_); go_big_quiet_op; refine hK _ ?_; clear hK K)
    | (refine AWq.skip rfl rfl rfl ?_; simp only [Act.put, List.setIfInBounds_toArray, List.set_cons_succ, List.set_cons_zero])
    | (refine AWq.call rfl Tryz.func101 (by kernel_rfl) (by kernel_rfl) rfl rfl rfl ?_; apply Exists.intro; refine And.intro (fun wc hc => ?_) ?_; (· (simp only [argsOf, anyAt, ↓reduceIte, Nat.reduceEqDiff, Array.getD_eq_getD_getElem?, List.getElem?_toArray, List.getElem?_cons_succ, List.getElem?_cons_zero, Option.getD_some]; with_reducible exact (HN _ _).out)); simp only [Act.put, List.setIfInBounds_toArray, List.set_cons_succ, List.set_cons_zero])
    | (refine AWq.opV (fun u W => OwnF [fN v.by_, fN v.n] w.heap.size u W ∧ ∃ q, u = .slice (some ⟨q, 0, none⟩) 2 2) (fun u _ _ he h => ⟨OwnF.ext h.1 he, h.2⟩) rfl rfl rfl rfl (fun wc hc => ?_) ?_; (· (have hc2 := Nat.le_trans HWs.out hc.size; have hc' := hc.rule; clear hc; go_simp; dsimp only [Gives]; exact ⟨⟨own_two wc hc2 (fN v.by_) (fN v.n), _, rfl⟩, Ext.alloc _ _⟩)))
    | (refine AWq.opQ ((fun u W => OwnF [fN v.by_, fN v.n] w.heap.size u W ∧ ∃ q, u = .slice (some ⟨q, 0, none⟩) 2 2)) ((fun u _ _ he h => ⟨OwnF.ext h.1 he, h.2⟩)) rfl (fun a wc hc hl' => ⟨rfl, ?_⟩) ?_; (· (have e := hl' 9 (of_decide_eq_true (by kernel_rfl)); exact ⟨e, Ext.refl _⟩))))
  refine AWq.done rfl rfl rfl (fun w2 x2 => ?_)
  simp only [closeAny, Act.put, List.setIfInBounds_toArray, List.set_cons_succ, List.set_cons_zero]
  intro u2 h2 _ _
  go_wp2_with fail
  go_ret
  exact ⟨_, rfl, h2, HE.out.trans x2⟩
end Go.Proofs.YtmbgakjkhgdjnaaGreatDoor
namespace Go.Proofs.YtmbgakjkhgdjnaaGreatDoor
set_option linter.unusedSimpArgs false
set_option linter.unusedVariables false
open Go.RowKit

theorem OwnF.app_full {l m : List FldI} {B : Nat} {A : Option Addr} {u : Value} {w : World} (h : OwnF l B (.slice A l.length l.length) w) (hB : B ≤ w.heap.size) (hm : Sl w 3 u (m.map FldI.cells)) (hl : l.length ≤ 100000) (hml : m.length ≤ 100000) : ∃ v' w', (Builtin.append_ #[125, 125] 125 #[.slice A l.length l.length, u]).run Tryz.prog w = .ok v' w' ∧ OwnF (l ++ m) B v' w' ∧ Ext w w' := by
  obtain ⟨v', w', hr, ho, _⟩ := h.app hB hm hl hml
  obtain ⟨v2, w2, hr2, _, he⟩ := Go.Proofs.YtmbgakjkhgdjnaaGreatDoor.app_full (P := Tryz.prog) (tx := 125) (ty := 125) (m := m) fld_elem fld_coded h.sl (src_of_sl Tryz.underlying125 fld_coded hm (Ext.refl w)) (by omega) (by omega) (by omega)
  rw [hr] at hr2
  injection hr2 with e1 e2
  subst e1 e2
  exact ⟨v', w', hr, ho, he⟩
set_option maxRecDepth 100000 in
set_option maxHeartbeats 4000000 in
theorem pstamp_c (w : World) (i : Ver) (sb sn tm : Int) (p : ByteArray) : Calls Tryz.prog 163 #[.agg #[.int .i64 i.by_, .int .i64 i.n], .agg #[.int .i64 sb, .int .i64 sn, .int .i64 tm], .string p] w (RetQ (OwnF [fN i.by_, fN i.n, fN sb, fN sn, fN tm, fT p] w.heap.size) w) := by
  have HN := fun W n => hid (fN_c W n)
  have HT := fun W => hid (fT_c W p)
  have HV1 : ∀ W : World, w.heap.size ≤ W.heap.size → Hid (Calls Tryz.prog 104 #[.agg #[.int .i64 i.by_, .int .i64 i.n]] W (RetQ (fun u W => OwnF [fN i.by_, fN i.n] w.heap.size u W ∧ ∃ q, u = .slice (some ⟨q, 0, none⟩) 2 2) W)) := fun W hW =>
    (pver_c W i).mono fun e w' ⟨v, e1, e2, e3⟩ => ⟨v, e1, ⟨e2.1.weak hW, e2.2⟩, e3⟩
  have HV2 : ∀ W : World, w.heap.size ≤ W.heap.size → Hid (Calls Tryz.prog 104 #[.agg #[.int .i64 sb, .int .i64 sn]] W (RetQ (fun u W => OwnF [fN sb, fN sn] w.heap.size u W ∧ ∃ q, u = .slice (some ⟨q, 0, none⟩) 2 2) W)) := fun W hW =>
    (pver_c W ⟨sb, sn⟩).mono fun e w' ⟨v, e1, e2, e3⟩ => ⟨v, e1, ⟨e2.1.weak hW, e2.2⟩, e3⟩
  have HB1 := hid ((Blk.new w 60 #[.int .i64 i.by_, .int .i64 i.n]).alloc (.cells #[.int .i64 sb, .int .i64 sn, .int .i64 tm] 62))
  have HB2 := hid (Blk.new (w.alloc (.cells #[.int .i64 i.by_, .int .i64 i.n] 60)) 62 #[.int .i64 sb, .int .i64 sn, .int .i64 tm])
  rw [World.size_alloc] at HB2
  have HE := hid ((Ext.alloc w (.cells #[.int .i64 i.by_, .int .i64 i.n] 60)).alloc' (.cells #[.int .i64 sb, .int .i64 sn, .int .i64 tm] 62))
  go_enter Tryz.func163, Tryz.ntmps163
  go_wp2_with fail
  have hw := HE.out.size
  generalize (w.alloc (.cells #[.int .i64 i.by_, .int .i64 i.n] 60)).alloc (.cells #[.int .i64 sb, .int .i64 sn, .int .i64 tm] 62) = w0 at HB1 HB2 HE hw ⊢
  have HWs := hid hw
  clear hw
  have b0 := HB1.out.cell (i := 0) (v := .int .i64 i.by_) rfl
  have b1 := HB1.out.cell (i := 1) (v := .int .i64 i.n) rfl
  have bl := HB1.out.lt
  have c0 := HB2.out.cell (i := 0) (v := .int .i64 sb) rfl
  have c1 := HB2.out.cell (i := 1) (v := .int .i64 sn) rfl
  have c2 := HB2.out.cell (i := 2) (v := .int .i64 tm) rfl
  have cl := HB2.out.lt
  refine wp_region_two (pre := ?pre5) (z1 := ?z15) (z2 := ?z25) ?hpre5 ?hz15 ?hz25 (by kernel_rfl) (by kernel_rfl) (by kernel_rfl) (by kernel_rfl) (by kernel_rfl) ?_
  case hpre5 => (simp only [List.dropLast_cons_cons, List.dropLast_singleton]; first | done | exact rfl)
  case hz15 => (simp only [List.dropLast_cons_cons, List.dropLast_singleton, List.getLast?_cons_cons, List.getLast?_singleton]; first | done | exact rfl)
  case hz25 => (simp only [List.getLast?_cons_cons, List.getLast?_singleton]; first | done | exact rfl)
  repeat (first
    | (refine AWq.val rfl rfl rfl rfl (fun K hK => ?_); go_big_quiet_op; refine hK _ ?_; clear hK K)
    | (refine AWq.skip rfl rfl rfl ?_; simp only [Act.put, List.setIfInBounds_toArray, List.set_cons_succ, List.set_cons_zero])
    | (refine AWq.call rfl Tryz.func101 (by kernel_rfl) (by kernel_rfl) rfl rfl rfl ?_; apply Exists.intro; refine And.intro (fun wc hc => ?_) ?_; (· (simp only [argsOf, anyAt, ↓reduceIte, Nat.reduceEqDiff, Array.getD_eq_getD_getElem?, List.getElem?_toArray, List.getElem?_cons_succ, List.getElem?_cons_zero, Option.getD_some]; with_reducible exact (HN _ _).out)); simp only [Act.put, List.setIfInBounds_toArray, List.set_cons_succ, List.set_cons_zero])
    | (refine AWq.call rfl Tryz.func99 (by kernel_rfl) (by kernel_rfl) rfl rfl rfl ?_; apply Exists.intro; refine And.intro (fun wc hc => ?_) ?_; (· (simp only [argsOf, anyAt, ↓reduceIte, Nat.reduceEqDiff, Array.getD_eq_getD_getElem?, List.getElem?_toArray, List.getElem?_cons_succ, List.getElem?_cons_zero, Option.getD_some]; with_reducible exact (HT _).out)); simp only [Act.put, List.setIfInBounds_toArray, List.set_cons_succ, List.set_cons_zero])
    | (refine AWq.callQ ((fun u W => OwnF [fN i.by_, fN i.n] w.heap.size u W ∧ ∃ q, u = .slice (some ⟨q, 0, none⟩) 2 2)) ((fun u _ _ he h => ⟨OwnF.ext h.1 he, h.2⟩)) rfl Tryz.func104 (by kernel_rfl) (by kernel_rfl) rfl rfl rfl (fun wc hc => ?_) ?_; (· (simp only [argsOf, anyAt, ↓reduceIte, Nat.reduceEqDiff, Array.getD_eq_getD_getElem?, List.getElem?_toArray, List.getElem?_cons_succ, List.getElem?_cons_zero, Option.getD_some]; with_reducible exact (HV1 wc (Nat.le_trans HWs.out hc.size)).out)))
    | (refine AWq.callQ ((fun u W => OwnF [fN sb, fN sn] w.heap.size u W ∧ ∃ q, u = .slice (some ⟨q, 0, none⟩) 2 2)) ((fun u _ _ he h => ⟨OwnF.ext h.1 he, h.2⟩)) rfl Tryz.func104 (by kernel_rfl) (by kernel_rfl) rfl rfl rfl (fun wc hc => ?_) ?_; (· (simp only [argsOf, anyAt, ↓reduceIte, Nat.reduceEqDiff, Array.getD_eq_getD_getElem?, List.getElem?_toArray, List.getElem?_cons_succ, List.getElem?_cons_zero, Option.getD_some]; with_reducible exact (HV2 wc (Nat.le_trans HWs.out hc.size)).out)))
    | (refine AWq.opQ (fun u W => OwnF [fN i.by_, fN i.n, fN sb, fN sn] w.heap.size u W) (fun u _ _ he h => OwnF.ext h he) rfl (fun a wc hc hl' => ⟨rfl, ?_⟩) ?_; (· (have e8 : OwnF [fN i.by_, fN i.n] w.heap.size (a.tmps.getD 8 undef) wc ∧ ∃ q, a.tmps.getD 8 undef = .slice (some ⟨q, 0, none⟩) 2 2 := hl' 8 (of_decide_eq_true (by kernel_rfl)); have e11 : OwnF [fN sb, fN sn] w.heap.size (a.tmps.getD 11 undef) wc ∧ ∃ q, a.tmps.getD 11 undef = .slice (some ⟨q, 0, none⟩) 2 2 := hl' 11 (of_decide_eq_true (by kernel_rfl)); obtain ⟨o8, q8, e8⟩ := e8; rw [e8] at o8; obtain ⟨v', w', hr', hO, hX⟩ := OwnF.app_full (l := [fN i.by_, fN i.n]) o8 (Nat.le_trans HWs.out hc.size) e11.1.sl (by simp) (by simp); exact gives_app (a := a) (s := .tmp 8) (x := .tmp 11) rfl e8 rfl hr' ⟨hO, hX⟩)))
    | (refine AWq.opV (fun u W => OwnF [fN tm, fT p] w.heap.size u W) (fun u _ _ he h => OwnF.ext h he) rfl rfl rfl rfl (fun wc hc => ?_) ?_; (· (have hc2 := Nat.le_trans HWs.out hc.size; have hc' := hc.rule; clear hc; go_simp; dsimp only [Gives]; exact ⟨own_two wc hc2 (fN tm) (fT p), Ext.alloc _ _⟩))))
  refine AWq.two rfl rfl rfl (fun w2 x2 => ?_)
  simp only [closeAny, Act.put, List.setIfInBounds_toArray, List.set_cons_succ, List.set_cons_zero]
  intro v18 h18 v12 h12 v11 _ v8 _
  obtain ⟨v3, w3, hrun, hO3, hk3⟩ := h12.app (Nat.le_trans HWs.out x2.size) h18.sl (by simp) (by simp)
  have HEnd : Hid (Ext w w3) := hk3.toExt (HE.out.trans x2) fun q hq => (row_block h12 q hq).1
  have HO := hid hO3
  clear hO3 hk3 h12 h18 b0 b1 bl c0 c1 c2 cl
  at_builtin
  refine wpList_app rfl (.tmp 12) (.tmp 18) _ _ rfl rfl rfl hrun ?_
  go_wp2_with fail
  go_ret
  exact ⟨_, rfl, HO.out, HEnd.out⟩
end Go.Proofs.YtmbgakjkhgdjnaaGreatDoor
namespace Go.Proofs.YtmbgakjkhgdjnaaGreatDoor
set_option linter.unusedSimpArgs false
set_option linter.unusedVariables false
open Go.RowKit

set_option maxRecDepth 100000 in
set_option maxHeartbeats 2000000 in
theorem rnumberZ_c (w : World) (z : Int) (h1 : -9223372036854775808 ≤ z) (h2 : z ≤ 9223372036854775807) : Calls Tryz.prog 47 #[.int .i64 z] w (Ret (.string (numB z)) w) := by
  by_cases h0 : 0 ≤ z
  · obtain ⟨n, rfl⟩ : ∃ n : Nat, z = (n : Int) := ⟨z.toNat, by omega⟩
    rw [numB_nat]
    exact rnumber_c w n (by omega)
  · have d0 : decide ((127 : Int) < z) = false := decide_eq_false (by omega)
    have hc := fun W => conv_byte W (z % 256)
    have HR : Hid (numB z = ⟨#[UInt8.ofNat (z % 256).toNat]⟩) := by unfold Hid numB; rw [if_pos (by omega)]
    generalize UInt8.ofNat (z % 256).toNat = c at hc HR
    go_enter Tryz.func47, Tryz.ntmps47
    go_wp2_with fail
    go_loopw [0, 3] (fun s0 s3 wr => s0 = .int .i64 z ∧ s3 = .string ⟨#[]⟩ ∧ wr = w) (fun _ _ _ => 0)
    case atStart => exact ⟨rfl, rfl, rfl⟩
    case round =>
      obtain ⟨rfl, rfl, rfl⟩ := hrel
      go_wp2_with fail
      go_ret
      exact ⟨by rw [HR.out]; rfl, Ext.alloc _ _⟩
theorem one_nil (s : ByteArray) : (⟨#[]⟩ : ByteArray) ++ s = s := by
  apply ByteArray.ext; simp
/-- A version's bytes. -/
def verB (v : Ver) : ByteArray := numB v.by_ ++ numB v.n
set_option maxRecDepth 100000 in
set_option maxHeartbeats 2000000 in
theorem rver_c (w : World) (v : Ver) (h1 : -9223372036854775808 ≤ v.by_ ∧ v.by_ ≤ 9223372036854775807) (h2 : -9223372036854775808 ≤ v.n ∧ v.n ≤ 9223372036854775807) : Calls Tryz.prog 52 #[v.val] w (Ret (.string (verB v)) w) := by
  have H1 := fun W => hid (rnumberZ_c W v.by_ h1.1 h1.2)
  have H2 := fun W => hid (rnumberZ_c W v.n h2.1 h2.2)
  have s1 := numB_9 h1.2
  have s2 := numB_9 h2.2
  have HE := hid (Ext.alloc w (.cells #[.int .i64 v.by_, .int .i64 v.n] 60))
  have HB := hid (Blk.new w 60 #[.int .i64 v.by_, .int .i64 v.n])
  unfold Ver.val verB
  generalize numB v.by_ = a at H1 s1 ⊢
  generalize numB v.n = b at H2 s2 ⊢
  clear h1 h2
  go_enter Tryz.func52, Tryz.ntmps52
  go_wp2_with fail
  generalize w.alloc (.cells #[.int .i64 v.by_, .int .i64 v.n] 60) = w0 at HB HE ⊢
  have b0 := HB.out.cell (i := 0) (v := .int .i64 v.by_) rfl
  have b1 := HB.out.cell (i := 1) (v := .int .i64 v.n) rfl
  have bl := HB.out.lt
  refine wp_region_any_order (by kernel_rfl) (by kernel_rfl) (by kernel_rfl) ?_
  repeat (first
    | (refine AWq.val rfl rfl rfl rfl (fun K hK => ?_); go_big_quiet_op; refine hK _ ?_; clear hK K)
    | (refine AWq.skip rfl rfl rfl ?_; simp only [Act.put, List.setIfInBounds_toArray, List.set_cons_succ, List.set_cons_zero])
    | (refine AWq.call rfl Tryz.func47 (by kernel_rfl) (by kernel_rfl) rfl rfl rfl ?_; apply Exists.intro; refine And.intro (fun wc hc => ?_) ?_; (· (simp only [argsOf, anyAt, ↓reduceIte, Nat.reduceEqDiff, Array.getD_eq_getD_getElem?, List.getElem?_toArray, List.getElem?_cons_succ, List.getElem?_cons_zero, Option.getD_some]; with_reducible exact (H1 _).out)); simp only [Act.put, List.setIfInBounds_toArray, List.set_cons_succ, List.set_cons_zero])
    | (refine AWq.call rfl Tryz.func47 (by kernel_rfl) (by kernel_rfl) rfl rfl rfl ?_; apply Exists.intro; refine And.intro (fun wc hc => ?_) ?_; (· (simp only [argsOf, anyAt, ↓reduceIte, Nat.reduceEqDiff, Array.getD_eq_getD_getElem?, List.getElem?_toArray, List.getElem?_cons_succ, List.getElem?_cons_zero, Option.getD_some]; with_reducible exact (H2 _).out)); simp only [Act.put, List.setIfInBounds_toArray, List.set_cons_succ, List.set_cons_zero]))
  refine AWq.done rfl rfl rfl (fun w2 x2 => ?_)
  simp only [closeAny, Act.put, List.setIfInBounds_toArray, List.set_cons_succ, List.set_cons_zero]
  go_wp2_with fail
  go_ret
  exact ⟨rfl, HE.out.trans x2⟩
theorem rbit_c (w : World) (b : Bool) : Calls Tryz.prog 126 #[.bool b] w (Ret (.string (if b then ⟨#[1]⟩ else ⟨#[0]⟩)) w) := by
  cases b
  all_goals
    go_enter Tryz.func126, Tryz.ntmps126
    go_wp2_with fail
    go_ret
    exact ⟨rfl, Ext.refl _⟩
end Go.Proofs.YtmbgakjkhgdjnaaGreatDoor
namespace Go.Proofs.YtmbgakjkhgdjnaaGreatDoor
set_option linter.unusedSimpArgs false
set_option linter.unusedVariables false
open Go.RowKit

def in64 (z : Int) : Prop := -9223372036854775808 ≤ z ∧ z ≤ 9223372036854775807
theorem verB_18 {v : Ver} (h1 : in64 v.by_) (h2 : in64 v.n) : (verB v).size ≤ 18 := by
  unfold verB
  rw [ByteArray.size_append]
  have := numB_9 h1.2
  have := numB_9 h2.2
  omega
theorem textB_le (s : ByteArray) (h : s.size ≤ 100000) : (textB s).size ≤ s.size + 9 := by
  unfold textB
  rw [ByteArray.size_append]
  have := lebB_9 (n := s.size) (by omega)
  omega
theorem numB_list {z : Int} (h : 0 ≤ z) : (numB z).data.toList = lebL z.toNat := by
  unfold numB lebB
  rw [if_neg (by omega)]
theorem textB_list (s : ByteArray) : (textB s).data.toList = lebL s.size ++ s.data.toList := by
  unfold textB lebB
  rw [ByteArray.data_append, Array.toList_append]
def okZ (b : Bool) : Int := if b then 0 else 2
def putB (b : Bool) (s : ByteArray) : ByteArray := if b then s else ⟨#[]⟩
theorem size_toL (t : ByteArray) : t.toList.length = t.size := by
  rw [Lib.toList_data, Array.length_toList]; rfl
end Go.Proofs.YtmbgakjkhgdjnaaGreatDoor
