/-
  A clause is laid (pack.PutFilter$1).
  pack.list of clauses (written by gen_list.py).
  pack.PutFilter; pack.same of filters.
-/
import Derived.Test.YtmbgakjkhgdjnaaGreatDoorPfAk
import Derived.Test.YtmbgakjkhgdjnaaGreatDoorQbF
namespace Go.Proofs.YtmbgakjkhgdjnaaGreatDoor
set_option linter.unusedSimpArgs false
set_option linter.unusedVariables false
open Go.RowKit

theorem cl_enc {c : ClauseI} (h : ClauseOk c) : (⟨(encL [fT c.pre, fN c.lo, fN c.hi]).toArray⟩ : ByteArray) = clB c := by
  apply ByteArray.ext
  apply Array.ext'
  unfold clB
  simp only [ByteArray.data_append, Array.toList_append, numB_list h.lo.1, numB_list h.hi.1, textB_list]
  simp [encL, fN, fT, FldI.enc]
theorem clB_size {c : ClauseI} (h : ClauseOk c) : 0 < (clB c).size ∧ (clB c).size ≤ 70 := by
  have h1 := textB_le c.pre (by have := h.pre; omega)
  have h2 := numB_9 (z := c.lo) (by have := h.lo; omega)
  have h3 := numB_9 (z := c.hi) (by have := h.hi; omega)
  have h4 : 0 < (textB c.pre).size := by
    have h : (textB c.pre).data.toList.length = (textB c.pre).size := by rw [Array.length_toList]; rfl
    rw [textB_list, List.length_append] at h
    have := lebL_pos c.pre.size
    omega
  have := h.pre
  unfold clB
  rw [ByteArray.size_append, ByteArray.size_append]
  omega
theorem own_three (w : World) {B : Nat} (hB : B ≤ w.heap.size) (a b c : FldI) : OwnF [a, b, c] B (.slice (some ⟨w.heap.size, 0, none⟩) 3 3) (w.alloc (.cells #[.int .i64 a.n, .string a.s, .bool a.t, .int .i64 b.n, .string b.s, .bool b.t, .int .i64 c.n, .string c.s, .bool c.t] 146)) :=
  own_lit hB 146 3 3 #[.int .i64 a.n, .string a.s, .bool a.t, .int .i64 b.n, .string b.s, .bool b.t, .int .i64 c.n, .string c.s, .bool c.t] (by unfold maxLen; omega) rfl
set_option maxRecDepth 100000 in
set_option maxHeartbeats 4000000 in
theorem putC1_c (w : World) (c : ClauseI) (h : ClauseOk c) : Calls Tryz.prog 148 #[.agg #[.string c.pre, .int .i64 c.lo, .int .i64 c.hi]] w (Ret (.string (clB c)) w) := by
  have HT := fun W => hid (fT_c W c.pre)
  have HN := fun W n => hid (fN_c W n)
  have hok : ∀ f ∈ [fT c.pre, fN c.lo, fN c.hi], f.ok := fun f hf => by
    have h1 := h.pre; have h2 := h.lo; have h3 := h.hi
    simp only [List.mem_cons, List.not_mem_nil, or_false] at hf
    rcases hf with rfl | rfl | rfl
    · exact ⟨by show c.pre.size ≤ _; omega, fun h => (by (have h : true = false := h); cases h), by show (0 : Int) ≤ _; omega⟩
    · exact ⟨Nat.zero_le _, fun _ => h2.1, by show c.lo ≤ _; omega⟩
    · exact ⟨Nat.zero_le _, fun _ => h3.1, by show c.hi ≤ _; omega⟩
  have hlen : (encL [fT c.pre, fN c.lo, fN c.hi]).length ≤ 65536 := by
    have h1 : (encL [fT c.pre, fN c.lo, fN c.hi]).length = (⟨(encL [fT c.pre, fN c.lo, fN c.hi]).toArray⟩ : ByteArray).size := rfl
    have h2 := clB_size h
    rw [cl_enc h] at h1
    omega
  have HP := fun W v (h : Sl W 3 v ([fT c.pre, fN c.lo, fN c.hi].map FldI.cells)) => hid (play_c W v [fT c.pre, fN c.lo, fN c.hi] h hok (by simp) hlen)
  rw [cl_enc h] at HP
  have HE := hid (Ext.alloc w (.cells #[.string c.pre, .int .i64 c.lo, .int .i64 c.hi] 130))
  clear hok hlen h
  generalize clB c = r at HP ⊢
  go_enter Tryz.func148, Tryz.ntmps148
  go_wp2_with fail
  refine wp_region_any_order (by kernel_rfl) (by kernel_rfl) (by kernel_rfl) ?_
  repeat (first
    | (refine AWq.val rfl rfl rfl rfl (fun K hK => ?_); go_big_quiet_op; refine hK _ ?_; clear hK K)
    | (refine AWq.skip rfl rfl rfl ?_; simp only [Act.put, List.setIfInBounds_toArray, List.set_cons_succ, List.set_cons_zero])
    | (refine AWq.call rfl Tryz.func99 (by kernel_rfl) (by kernel_rfl) rfl rfl rfl ?_; apply Exists.intro; refine And.intro (fun wc hc => ?_) ?_; (· (simp only [argsOf, anyAt, ↓reduceIte, Nat.reduceEqDiff, Array.getD_eq_getD_getElem?, List.getElem?_toArray, List.getElem?_cons_succ, List.getElem?_cons_zero, Option.getD_some]; with_reducible exact (HT _).out)); simp only [Act.put, List.setIfInBounds_toArray, List.set_cons_succ, List.set_cons_zero])
    | (refine AWq.call rfl Tryz.func101 (by kernel_rfl) (by kernel_rfl) rfl rfl rfl ?_; apply Exists.intro; refine And.intro (fun wc hc => ?_) ?_; (· (simp only [argsOf, anyAt, ↓reduceIte, Nat.reduceEqDiff, Array.getD_eq_getD_getElem?, List.getElem?_toArray, List.getElem?_cons_succ, List.getElem?_cons_zero, Option.getD_some]; with_reducible exact (HN _ _).out)); simp only [Act.put, List.setIfInBounds_toArray, List.set_cons_succ, List.set_cons_zero])
    | (refine AWq.opV (fun v W => OwnF [fT c.pre, fN c.lo, fN c.hi] w.heap.size v W) (fun v _ _ he h => OwnF.ext h he) rfl rfl rfl rfl (fun wc hc => ?_) ?_; (· (have hc2 := hc.size; have hc' := hc.rule; clear hc; go_simp; dsimp only [Gives]; exact ⟨own_three wc (by have := HE.out.size; omega) (fT c.pre) (fN c.lo) (fN c.hi), Ext.alloc _ _⟩)))
    | (refine AWq.call rfl Tryz.func100 (by kernel_rfl) (by kernel_rfl) rfl rfl rfl ?_; apply Exists.intro; refine And.intro (fun wc hc => ?_) ?_; (· (simp only [argsOf, anyAt, ↓reduceIte, Nat.reduceEqDiff, Array.getD_eq_getD_getElem?, List.getElem?_toArray, List.getElem?_cons_succ, List.getElem?_cons_zero, Option.getD_some]; intro y hy; exact (HP _ _ hy.sl).out)); simp only [Act.put, List.setIfInBounds_toArray, List.set_cons_succ, List.set_cons_zero]))
  refine AWq.done rfl rfl rfl (fun w2 x2 => ?_)
  simp only [closeAny, Act.put, List.setIfInBounds_toArray, List.set_cons_succ, List.set_cons_zero]
  rintro x5 -
  go_wp2_with fail
  go_ret
  exact ⟨rfl, HE.out.trans x2⟩
end Go.Proofs.YtmbgakjkhgdjnaaGreatDoor
namespace Go.Proofs.YtmbgakjkhgdjnaaGreatDoor
set_option linter.unusedSimpArgs false
set_option linter.unusedVariables false
open Go.RowKit

set_option maxRecDepth 100000 in
set_option maxHeartbeats 4000000 in
theorem listC_c (w : World) (v : Value) (l : List ClauseI) (enc : ClauseI → ByteArray) (h : Sl w 3 v (l.map ClauseI.cells)) (hl : l.length ≤ 100000) (hone : ∀ x ∈ l, ∀ W, Ext w W → Calls Tryz.prog 148 #[.agg #[.string x.pre, .int .i64 x.lo, .int .i64 x.hi]] W (Ret (.string (enc x)) W)) (hpos : ∀ x ∈ l, 0 < (enc x).size ∧ (enc x).size ≤ 65536) (htot : (encL (fN l.length :: l.map (fun x => fT (enc x)))).length ≤ 65536) : Calls Tryz.prog 147 #[v, .func (.func 148) #[] #[]] w (Ret (.string ⟨(encL (fN l.length :: l.map (fun x => fT (enc x)))).toArray⟩) w) := by
  obtain ⟨A, c, rfl, h1, h2, h3⟩ := sl_get h
  unfold maxLen at h2
  have HN := fun W n => hid (fN_c W n)
  have HT := fun W s => hid (fT_c W s)
  have HOne := hid hone
  have HPos := hid hpos
  have HP := fun W u (h : Sl W 3 u ((fN l.length :: l.map (fun x => fT (enc x))).map FldI.cells)) => hid (play_c W u (fN l.length :: l.map (fun x => fT (enc x))) h (fun f hf => by
    rcases List.mem_cons.1 hf with rfl | hf
    · exact ⟨Nat.zero_le _, fun _ => Int.natCast_nonneg _, by show (l.length : Int) ≤ _; omega⟩
    · obtain ⟨x, hx, rfl⟩ := List.mem_map.1 hf
      exact ⟨(hpos x hx).2, fun h => (by (have h : true = false := h); cases h), by show (0 : Int) ≤ _; omega⟩) (by simp) htot)
  have H3 := hid h3
  clear h h3 hone hpos htot
  go_enter Tryz.func147, Tryz.ntmps147
  go_wp2_with fail
  refine ((HN _ _).out).mono ?_
  rintro en w1 ⟨rfl, x1⟩
  have HE1 := hid x1
  clear x1
  have HF0 : Hid (OwnF [fN l.length] w.heap.size (.slice (some ⟨w1.heap.size, 0, none⟩) 1 1) (w1.alloc (.cells #[.int .i64 l.length, .string ⟨#[]⟩, .bool false] 146))) := own_lit HE1.out.size 146 3 1 #[.int .i64 l.length, .string ⟨#[]⟩, .bool false] (by unfold maxLen; omega) rfl
  have HE2 := hid (HE1.out.alloc' (.cells #[.int .i64 l.length, .string ⟨#[]⟩, .bool false] 146))
  go_wp2_with fail
  generalize w1.alloc (.cells #[.int .i64 l.length, .string ⟨#[]⟩, .bool false] 146) = w2 at HF0 HE2 ⊢
  obtain ⟨v0, hv0⟩ : ∃ v0, v0 = Value.slice (some ⟨w1.heap.size, 0, none⟩) 1 1 := ⟨_, rfl⟩
  go_loopw [5, 15] (fun s5 s15 wr => ∃ (k : Nat) (ov : Value), ov = s5 ∧ k ≤ l.length ∧ s15 = .int .i64 k ∧ Hid (Ext w wr) ∧ Hid (OwnF (fN l.length :: (l.take k).map (fun x => fT (enc x))) w.heap.size s5 wr)) (fun _ s15 _ => l.length - (intOf s15).toNat)
  case atStart => exact ⟨0, _, rfl, by omega, rfl, HE2, HF0⟩
  case round =>
    obtain ⟨k, s5, rfl, hk, rfl, hE, hO⟩ := hrel
    clear HF0 HE2 HE1 hv0 HN
    by_cases hlt : k < l.length
    · have d1 : decide ((k : Int) < l.length) = true := decide_eq_true (by omega)
      have d1' : decide (k < l.length) = true := decide_eq_true hlt
      obtain ⟨b, o, rfl, lb, hcell⟩ := H3.out (by omega)
      have c0 := hE.out.cell (hcell k hlt 0 _ rfl)
      have c1 := hE.out.cell (hcell k hlt 1 _ rfl)
      have c2 := hE.out.cell (hcell k hlt 2 _ rfl)
      rw [Nat.add_zero] at c0
      have lbr := Nat.lt_of_lt_of_le lb hE.out.size
      have HM : Hid ((l.take (k + 1)).map (fun x => fT (enc x)) = (l.take k).map (fun x => fT (enc x)) ++ [fT (enc l[k])]) := by
        unfold Hid
        rw [List.take_succ_eq_append_getElem hlt, List.map_append]; rfl
      have HC := HOne.out l[k] (List.getElem_mem hlt)
      have hp := (HPos.out l[k] (List.getElem_mem hlt)).1
      have hlen : ((l.take k).map (fun x => fT (enc x))).length ≤ 100000 := by rw [List.length_map, List.length_take]; omega
      clear H3 hcell HOne HPos HP
      generalize hacc1 : (l.take (k + 1)).map (fun x => fT (enc x)) = acc1 at HM
      have HA1 := hid hacc1
      clear hacc1
      generalize hacc : (l.take k).map (fun x => fT (enc x)) = acc at hO HM hlen
      clear hacc
      generalize l[k] = x at c0 c1 c2 HC HM hp
      have d0 : (enc x).toList.isEmpty = false := by
        cases h : (enc x).toList.isEmpty with
        | false => rfl
        | true => rw [← size_toL, List.isEmpty_iff.1 h] at hp; exact absurd hp (by decide)
      clear hp
      generalize enc x = r at HC HM d0
      go_wp2_with fail
      refine (HC _ (hE.out.alloc' _)).mono ?_
      rintro en w3 ⟨rfl, x3⟩
      have hO3 := hid (hO.out.ext ((Ext.alloc _ _).trans x3))
      have hE3 := hid (hE.out.trans ((Ext.alloc _ _).trans x3))
      clear x3 c0 c1 c2 lbr lb hE hO HC
      go_wp2_with fail
      refine ((HT _ _).out).mono ?_
      rintro en w4 ⟨rfl, x4⟩
      have hO4 := hid (hO3.out.ext x4)
      have hE4 := hid (hE3.out.trans x4)
      clear x4 hO3 hE3
      obtain ⟨v', w6, hrun6, ho6, hk6, _⟩ := app_one (P := Tryz.prog) fld_elem fld_coded hO4.out hE4.out.size (fT r) (by simp; omega) (by omega)
      simp only [FldI.cells, fT] at hrun6
      have HE6 := hid (hk6.toExt hE4.out (fun q hq => (row_block hO4.out q hq).1))
      have HO6 : Hid (OwnF (fN l.length :: acc1) w.heap.size v' w6) := by
        rw [HM.out]; exact ho6
      clear ho6 hk6
      go_wp2_with (at_builtin; refine wpList_app rfl (.tmp 24) (.tmp 27) _ _ rfl rfl rfl hrun6 ?_)
      go_roundw
      case rel => exact ⟨k + 1, _, rfl, by omega, by go_num, HE6, by rw [HA1.out]; exact HO6⟩
      case measure => simp [intOf]; omega
    · obtain rfl : k = l.length := by omega
      rw [List.take_length] at hO
      have HS := hid hO.out.sl
      clear hlt hk H3 HOne HPos hO HT
      go_wp2_with fail
      refine ((HP _ _ HS.out).out).mono ?_
      rintro en w7 ⟨rfl, x7⟩
      have HE7 := hid (hE.out.trans x7)
      clear x7
      go_wp2_with fail
      go_ret
      exact ⟨rfl, HE7.out⟩
end Go.Proofs.YtmbgakjkhgdjnaaGreatDoor
namespace Go.Proofs.YtmbgakjkhgdjnaaGreatDoor
set_option linter.unusedSimpArgs false
set_option linter.unusedVariables false
open Go.RowKit

theorem clausesB_ok {f : List ClauseI} (h : clausesB f = true) : f.length ≤ 64 ∧ ∀ c ∈ f, ClauseOk c := by
  unfold clausesB at h
  simp only [Bool.and_eq_true, decide_eq_true_eq, List.all_eq_true] at h
  exact ⟨h.2, fun c hc => rightC_ok (h.1 c hc)⟩
theorem listC_size {f : List ClauseI} (h : clausesB f = true) : (listB clB f).size ≤ 6000 := by
  obtain ⟨h1, h2⟩ := clausesB_ok h
  have := listB_len clB f 70 64 (by decide) h1 (by decide) (fun x hx => (clB_size (h2 x hx)).2)
  rw [listB_size]; omega
set_option maxRecDepth 100000 in
set_option maxHeartbeats 4000000 in
theorem putF_c (w : World) (v : Value) (f : List ClauseI) (m : Int) (hm : w.cell? ⟨0, 0, none⟩ = some (.int .i64 m)) (h : Sl w 3 v (f.map ClauseI.cells)) (hs : ∀ c ∈ f, c.pre.size ≤ 90000) : Calls Tryz.prog 102 #[v] w (Ret (.tuple #[.string (putB (clausesB f) (listB clB f)), .int .i64 (okZ (clausesB f))]) w) := by
  have HC := hid (clauses_c w v f m hm h hs)
  have HF := fun W s b => hid (fits_c W s b)
  cases hb : clausesB f with
  | false =>
    rw [hb] at HC
    rw [show putB false (listB clB f) = ⟨#[]⟩ from rfl, show okZ false = 2 from rfl]
    obtain ⟨A, c, rfl, _⟩ := sl_get h
    clear h hs hm hb HF
    go_enter Tryz.func102, Tryz.ntmps102
    go_wp2_with fail
    refine (HC.out).mono ?_
    rintro e w1 ⟨rfl, x1⟩
    have X1 := hid x1
    clear x1
    go_wp2_with fail
    go_ret2
    exact ⟨rfl, X1.out⟩
  | true =>
    obtain ⟨h64, hok⟩ := clausesB_ok hb
    have HL := fun W (hW : Ext w W) => hid (listC_c W v f clB (h.ext hW) (by omega) (fun x hx W' _ => putC1_c W' x (hok x hx)) (fun x hx => by have := clB_size (hok x hx); omega) (by
      have := listC_size hb
      rw [listB_size] at this; omega))
    have e3 : (⟨(encL (fN f.length :: f.map (fun x => fT (clB x)))).toArray⟩ : ByteArray) = listB clB f := rfl
    rw [e3] at HL
    have hpos := listB_pos clB f
    rw [hb] at HC
    rw [show putB true (listB clB f) = listB clB f from rfl, show okZ true = 0 from rfl]
    generalize listB clB f = s at HL hpos ⊢
    have HFs := fun W => HF W s true
    rw [if_pos ⟨rfl, hpos⟩, if_pos rfl, if_pos hpos] at HFs
    obtain ⟨A, c, rfl, _⟩ := sl_get h
    clear h hs hm hb HF hok h64 e3 hpos
    go_enter Tryz.func102, Tryz.ntmps102
    go_wp2_with fail
    refine (HC.out).mono ?_
    rintro e w1 ⟨rfl, x1⟩
    have X1 := hid x1
    clear x1
    go_wp2_with fail
    refine ((HL _ X1.out).out).mono ?_
    rintro e w2 ⟨rfl, x2⟩
    have X2 := hid (X1.out.trans x2)
    clear x2
    go_wp2_with fail
    refine ((HFs _).out).mono ?_
    rintro e w3 ⟨rfl, x3⟩
    have X3 := hid (X2.out.trans x3)
    clear x3
    go_wp2_with fail
    go_ret2
    exact ⟨rfl, X3.out⟩
set_option maxRecDepth 100000 in
set_option maxHeartbeats 4000000 in
theorem sameF_c (w : World) (v : Value) (s r : ByteArray) (e : Int) (HP : ∀ W, Ext w W → Hid (Calls Tryz.prog 102 #[v] W (Ret (.tuple #[.string r, .int .i64 e]) W))) : Calls Tryz.prog 153 #[v, .string s, .func (.func 102) #[] #[]] w (Ret (.tuple #[if e = 0 ∧ r = s then v else .slice none 0 0, .int .i64 (if e = 0 ∧ r = s then 0 else 6)]) w) := by
  have key : ∀ (y : Value) (z : Int), (e = 0 ∧ r = s ∧ v = y ∧ z = 0 ∨ (e != 0) = true ∧ .slice none 0 0 = y ∧ z = 6 ∨ e = 0 ∧ (r.toList == s.toList) = false ∧ .slice none 0 0 = y ∧ z = 6) → Calls Tryz.prog 153 #[v, .string s, .func (.func 102) #[] #[]] w (Ret (.tuple #[y, .int .i64 z]) w) := by
    rintro y z (⟨rfl, rfl, rfl, rfl⟩ | ⟨d0, rfl, rfl⟩ | ⟨rfl, d1, rfl, rfl⟩)
    · have d0 : (r.toList == r.toList) = true := by simp
      go_enter Tryz.func153, Tryz.ntmps153
      go_wp2_with fail
      refine ((HP _ (Ext.refl _)).out).mono ?_
      rintro en w1 ⟨rfl, x1⟩
      have HE1 := hid x1
      clear x1 HP
      go_wp2_with fail
      go_ret2
      exact ⟨rfl, HE1.out⟩
    · go_enter Tryz.func153, Tryz.ntmps153
      go_wp2_with fail
      refine ((HP _ (Ext.refl _)).out).mono ?_
      rintro en w1 ⟨rfl, x1⟩
      have HE1 := hid x1
      clear x1 HP
      go_wp2_with fail
      go_ret2
      exact ⟨rfl, HE1.out⟩
    · go_enter Tryz.func153, Tryz.ntmps153
      go_wp2_with fail
      refine ((HP _ (Ext.refl _)).out).mono ?_
      rintro en w1 ⟨rfl, x1⟩
      have HE1 := hid x1
      clear x1 HP
      go_wp2_with fail
      go_ret2
      exact ⟨rfl, HE1.out⟩
  by_cases h0 : e = 0
  · by_cases h1 : r = s
    · rw [if_pos ⟨h0, h1⟩, if_pos ⟨h0, h1⟩]
      exact key _ _ (.inl ⟨h0, h1, rfl, rfl⟩)
    · rw [if_neg (fun h => h1 h.2), if_neg (fun h => h1 h.2)]
      exact key _ _ (.inr (.inr ⟨h0, by rw [beq_toList]; simp [h1], rfl, rfl⟩))
  · rw [if_neg (fun h => h0 h.1), if_neg (fun h => h0 h.1)]
    exact key _ _ (.inr (.inl ⟨by simp [h0], rfl, rfl⟩))
end Go.Proofs.YtmbgakjkhgdjnaaGreatDoor
