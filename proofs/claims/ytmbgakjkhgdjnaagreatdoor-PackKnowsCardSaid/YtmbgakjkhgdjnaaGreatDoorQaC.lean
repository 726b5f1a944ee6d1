/-
  append onto a row of bytes of one's own, in place or not, ahead of a second one.
  leb.Lay's closure: a field is put.
  leb.Lay's closure at a number.
  leb.Lay.
-/
import Derived.Test.YtmbgakjkhgdjnaaGreatDoorQaB
import Derived.Test.YtmbgakjkhgdjnaaGreatDoorAppk
import Derived.Test.YtmbgakjkhgdjnaaGreatDoorQdK
namespace Go.Proofs.YtmbgakjkhgdjnaaGreatDoor
set_option linter.unusedSimpArgs false
set_option linter.unusedVariables false
open Go.RowKit

/-- The row's own block alone has turned: what begins it stays, and rows that read as the longer one do. -/
def MidB (B : Nat) (v : Value) (acc full : List UInt8) (a b : World) : Prop :=
  Keep (fun g => v.ownBlock = some g) a b ∧ (B ≤ a.heap.size → (∀ u, OwnB full B u a → OwnB full B u b) ∧ (OwnB acc B v a → OwnB acc B v b))
theorem MidB.ofExt (B : Nat) (v : Value) (acc full : List UInt8) (a b : World) (h : Ext a b) : MidB B v acc full a b := ⟨Keep.of_ext h, fun _ => ⟨fun _ hu => hu.ext h, fun hv => hv.ext h⟩⟩
abbrev Rel.mid (B : Nat) (v : Value) (acc full : List UInt8) : Rel := ⟨MidB B v acc full, fun w => MidB.ofExt _ _ _ _ w w (Ext.refl w), fun _ _ _ h k => ⟨h.1.trans k.1, fun hB => ⟨fun u hu => (k.2 (Nat.le_trans hB h.1.size)).1 u ((h.2 hB).1 u hu), fun hv => (k.2 (Nat.le_trans hB h.1.size)).2 ((h.2 hB).2 hv)⟩⟩, MidB.ofExt B v acc full⟩
theorem OwnB.app2 {l m : List UInt8} {B : Nat} {v u : Value} {w : World} {tx : TypeId} (h : OwnB l B v w) (hB : B ≤ w.heap.size) (hs : Src Tryz.prog 1 tx u m.length (m.map byteC).flatten w) (hl : l.length ≤ 1000000) (hml : m.length ≤ 1000000) : ∃ v' w', (Builtin.append_ #[57, tx] 57 #[v, u]).run Tryz.prog w = .ok v' w' ∧ OwnB (l ++ m) B v' w' ∧ MidB B v l (l ++ m) w w' ∧ (v'.ownBlock = v.ownBlock ∨ ∀ q, v'.ownBlock = some q → w.heap.size ≤ q) := by
  obtain ⟨v', w', hr, ho, hk, hb9⟩ := h.app hB hs hl hml
  refine ⟨v', w', hr, ho, ⟨hk, fun _ => ?_⟩, hb9⟩
  rcases h.2.2 with ⟨rfl, h0⟩ | ⟨g, cap, cs, rfl, hb, hg, h3, h4, h5, h6⟩
  · have hx : Ext w w' := hk.toExt (Ext.refl _) fun q hq => by cases hq
    exact ⟨fun _ hu => hu.ext hx, fun hv => hv.ext hx⟩
  · obtain ⟨i, z, hi, hz, h1, h2, hzs⟩ := byte_elem.2
    have hown : Own B 5 1 l.length (l.map byteC).flatten (.slice (some ⟨g, 0, none⟩) l.length cap) w := ⟨hB, h.2.1, g, cap, cs, rfl, hb, hg, h3, h4, h5, h6⟩
    obtain ⟨v2, w2, hr2, _, hf⟩ := append_own (P := Tryz.prog) (ty := 57) Tryz.underlying57 hi hz h1 h2 hzs hown rfl hs (by unfold maxLen; omega) (by omega)
    rw [hr] at hr2
    injection hr2 with e1 e2
    subst e1 e2
    obtain ⟨_, hf⟩ := hf hB
    have hfull : ((l ++ m).map byteC).flatten = (l.map byteC).flatten ++ (m.map byteC).flatten := by rw [List.map_append, List.flatten_append]
    have hfl : ((l ++ m).map byteC).flatten.length = (l ++ m).length * 1 := byte_coded.flat_len _
    constructor
    · rintro u ⟨hu1, hu2, hu3⟩
      refine ⟨hu1, hu2, ?_⟩
      rcases hu3 with hu3 | ⟨g', cap', cs', rfl, hb', hg', a3, a4, a5, a6⟩
      · exact .inl hu3
      · obtain ⟨cs2, b1, b2, _, b4⟩ := hf g' _ cs' hb' hg'
        refine .inr ⟨g', cap', cs2, rfl, hb', b1, a3, a4, b2.trans a5, ?_⟩
        rw [← hfull, hfl] at b4
        exact b4 a6
    · rintro ⟨hu1, hu2, _⟩
      obtain ⟨cs2, b1, b2, b3, _⟩ := hf g _ cs hb hg
      refine ⟨hu1, hu2, .inr ⟨g, cap, cs2, rfl, hb, b1, h3, h4, b2.trans h5, ?_⟩⟩
      rw [b3]
      exact h6
theorem AWk.two {P : Program} {ops : Array Oper} {M : Rel} {F : World → Prop} {a0 : Act} {Q : Exit → Act → World → Prop} {b : Act} {A : Anys} {z1 z2 : Oper} (hs : b.tmps.size = a0.tmps.size) (hd : b.defers = a0.defers) (hk : keysB b.tmps.size A = true)
    (h : ∀ w, F w → closeAny (wpList P ops Q [z1, z2]) w A b) : AWk P ops M F (AfterTwo P ops F a0 Q z1 z2) [] b A :=
  fun a w he hsz hdf hsl => closeAny_sound A b hk (by rw [hs, hsz]) (by rw [hd, hdf]) (fun t ht => hsl t (by rw [← hs]; exact ht)) (h w he)
theorem wp_region_twok {P : Program} {a0 : Act} {id : Nat} {L pre : List Oper} {z1 z2 : Oper} {Q : Exit → Act → World → Prop} {w : World} (M : Rel) (F : World → Prop) (hpre : L.dropLast.dropLast = pre) (hz1 : L.dropLast.getLast? = some z1) (hz2 : L.getLast? = some z2) (hF : SteadyR M F) (hF0 : F w.drew) (hm : P.follows .mixedOrders = true) (hg : graphB L.toArray a0.tmps.size = true) (hlk : looksB L.toArray a0.tmps.size = true)
    (hl1 : lastB L.toArray (L.length - 2) = true) (hl2 : lastB L.toArray (L.length - 1) = true)
    (h : AWk P L.toArray M F (AfterTwo P L.toArray F a0 Q z1 z2) pre a0 []) : (Code.region id L.toArray true).wp P Q a0 w := by
  have tail : ∀ {A : List Oper} {z : Oper}, A.getLast? = some z → A = A.dropLast ++ [z] := fun {A z} hz => by
    have hne : A ≠ [] := by rintro rfl; cases hz
    rw [List.getLast?_eq_some_getLast hne] at hz
    injection hz with hz
    rw [← hz, List.dropLast_concat_getLast hne]
  have hL : L = pre ++ [z1, z2] := by
    have h1 := tail hz1
    rw [hpre] at h1
    have h2 := tail hz2
    rw [h1] at h2
    simpa using h2
  subst hL
  have e1 : (pre ++ [z1, z2]).length - 2 = pre.length := by simp
  have e2 : (pre ++ [z1, z2]).length - 1 = pre.length + 1 := by simp
  rw [e1] at hl1
  rw [e2] at hl2
  exact wp_region_aw_two M F hF hF0 hm hg hlk hl1 hl2 h
end Go.Proofs.YtmbgakjkhgdjnaaGreatDoor
namespace Go.Proofs.YtmbgakjkhgdjnaaGreatDoor
set_option linter.unusedSimpArgs false
set_option linter.unusedVariables false
open Go.RowKit

theorem row_weak9 {w : World} {B B' : Nat} {e : TypeId} {sz : Nat} {v : Value} {n : Nat} {xs : List Value} (h : w.ownsRow B e sz v n xs) (hB : B' ≤ B) : w.ownsRow B' e sz v n xs := ownsRow_mono h hB
set_option maxRecDepth 100000 in
set_option maxHeartbeats 8000000 in
theorem putT_c (w : World) (q B : Nat) (n : Int) (s : ByteArray) (acc : List UInt8) (A : Option Addr) (c : Nat) (hq : Blk w q 57 #[.slice A acc.length c]) (hO : OwnB acc B (.slice A acc.length c) w) (hB : B ≤ w.heap.size) (hqn : (Value.slice A acc.length c).ownBlock ≠ some q) (hl : acc.length ≤ 65536) (hs : s.size ≤ 65536) : Calls Tryz.prog 127 #[.agg #[.int .i64 n, .string s, .bool true], .pointer (some ⟨q, 0, none⟩)] w (fun en w' => en = .returned (.tuple #[]) ∧ ∃ v', Blk w' q 57 #[v'] ∧ OwnB (acc ++ (lebL s.size ++ s.data.toList)) B v' w' ∧ v'.ownBlock ≠ some q ∧ Keep (fun g => g = q ∨ (Value.slice A acc.length c).ownBlock = some g) w w') := by
  have HF1 := hid (Blk.new w 146 #[.int .i64 n, .string s, .bool true])
  have HQ1 := hid (hq.alloc (.cells #[.int .i64 n, .string s, .bool true] 146))
  have HO1 := hid (hO.ext (Ext.alloc w (.cells #[.int .i64 n, .string s, .bool true] 146)))
  have X1 := hid (Ext.alloc w (.cells #[.int .i64 n, .string s, .bool true] 146))
  have HOw : Hid (∀ g, (Value.slice A acc.length c).ownBlock = some g → g < w.heap.size) := fun g hg => (row_block hO.2 g hg).2
  have HQn := hid hqn
  have hcap : acc.length ≤ c ∧ c ≤ 9223372036854775807 := by
    obtain ⟨A', c', hv, h1, h2, _⟩ := sl_get (code := byteC) hO.sl
    injection hv with _ _ hc
    subst hc
    unfold maxLen at h2
    exact ⟨h1, by omega⟩
  obtain ⟨hc1, hc2⟩ := hcap
  have d0 : decide ((65536 : Int) < acc.length) = false := decide_eq_false (by omega)
  have d0' : decide (65536 < acc.length) = false := decide_eq_false (by omega)
  have q0 := HQ1.out.cell (i := 0) (v := .slice A acc.length c) rfl
  have ql := HQ1.out.lt
  have hql := hq.lt
  have f2 := HF1.out.cell (i := 2) (v := .bool true) rfl
  have fl := HF1.out.lt
  have HW := hid hB
  clear hq hO hB hqn
  go_enter Tryz.func127, Tryz.ntmps127
  go_wp2_with fail
  clear q0 ql f2 fl
  generalize hw1 : w.alloc (.cells #[.int .i64 n, .string s, .bool true] 146) = w1 at HF1 HQ1 HO1 X1 ⊢
  have hs1 : w1.heap.size = w.heap.size + 1 := by rw [← hw1, World.size_alloc]
  clear hw1
  generalize hgf : w.heap.size = gf at HF1 HOw hql ⊢
  have hmn : min (s.size : Int) 65536 = (s.size : Int) := by omega
  have HN := fun W => hid (number_c W s.size (by omega))
  have hnl := lebL_9 (n := s.size) (by omega)
  have HB1 : Hid (B ≤ w1.heap.size) := by have := HW.out; unfold Hid; omega
  have HC : Hid (∀ W, (Keep (fun g => (Value.slice A acc.length c).ownBlock = some g) w1 W ∧ OwnB acc B (.slice A acc.length c) W) → Blk W gf 146 #[.int .i64 n, .string s, .bool true] ∧ Blk W q 57 #[.slice A acc.length c] ∧ w1.heap.size ≤ W.heap.size) := fun W hW =>
    ⟨HF1.out.keep hW.1 (fun h => by have := HOw.out _ h; omega), HQ1.out.keep hW.1 (fun h => HQn.out h), hW.1.size⟩
  generalize hnum : lebL s.size = num at HN hnl
  refine wp_region_twok (Rel.mid B (.slice A acc.length c) acc (acc ++ num)) (fun W => Keep (fun g => (Value.slice A acc.length c).ownBlock = some g) w1 W ∧ OwnB acc B (.slice A acc.length c) W) (pre := ?preK) (z1 := ?z1K) (z2 := ?z2K) ?hpreK ?hz1K ?hz2K ?hFK ?hF0K (by kernel_rfl) (by kernel_rfl) (by kernel_rfl) (by kernel_rfl) (by kernel_rfl) ?_
  case hpreK => (simp only [List.dropLast_cons_cons, List.dropLast_singleton]; first | done | exact rfl)
  case hz1K => (simp only [List.dropLast_cons_cons, List.dropLast_singleton, List.getLast?_cons_cons, List.getLast?_singleton]; first | done | exact rfl)
  case hz2K => (simp only [List.getLast?_cons_cons, List.getLast?_singleton]; first | done | exact rfl)
  case hFK => exact fun a b h ⟨k, o⟩ => ⟨k.trans h.1, (h.2 (by have := HB1.out; have := k.size; omega)).2 o⟩
  case hF0K => exact ⟨Keep.of_ext (Ext.drew w1), HO1.out.ext (Ext.drew _)⟩
  repeat (first
    | (refine AWk.valE rfl rfl rfl rfl ?_; apply Exists.intro; refine And.intro (fun wc hc => ?_) ?_; (· (obtain ⟨bF, bQ, _⟩ := HC.out wc hc; have r0 := bF.cell (i := 1) (v := .string s) rfl; have r1 := bF.lt; have r2 := bQ.cell (i := 0) (v := .slice A acc.length c) rfl; have r3 := bQ.lt; clear bF bQ hc; go_simp; dsimp only [Gives]; exact ⟨rfl, rfl⟩)); simp only [Act.put, List.setIfInBounds_toArray, List.set_cons_succ, List.set_cons_zero])
    | (refine AWk.callQ (fun u W => OwnB num w1.heap.size u W) (fun u a b h hu => ⟨hu.1, ownsRow_keep hu.2 h.1 (fun g hg hS => by have h1 := (row_block hu.2 g hg).1; have h2 := HOw.out g hS; omega)⟩) rfl Tryz.func128 (by kernel_rfl) (by kernel_rfl) rfl rfl rfl (fun wc hc => ?_) ?_; (· (simp only [argsOf, anyAt, ↓reduceIte, Nat.reduceEqDiff, Array.getD_eq_getD_getElem?, List.getElem?_toArray, List.getElem?_cons_succ, List.getElem?_cons_zero, Option.getD_some]; exact ((HN wc).out).mono fun e w' ⟨v, e1, e2, e3⟩ => ⟨v, e1, ⟨e2.1, row_weak9 e2.2 hc.1.size⟩, e3⟩)))
    | (refine AWk.opQ (fun u W => B ≤ W.heap.size ∧ OwnB (acc ++ num) B u W ∧ ∀ g, u.ownBlock = some g → (Value.slice A acc.length c).ownBlock = some g ∨ w1.heap.size ≤ g) (fun u a b h hu => ⟨Nat.le_trans hu.1 h.1.size, (h.2 hu.1).1 u hu.2.1, hu.2.2⟩) rfl (fun a wc hc hl' => ⟨rfl, ?_⟩) ?_; (· (have e15 : a.tmps.getD 15 undef = .slice A acc.length c := hl' 15 (of_decide_eq_true (by kernel_rfl)); have e19 : OwnB num w1.heap.size (a.tmps.getD 19 undef) wc := hl' 19 (of_decide_eq_true (by kernel_rfl)); have hBc : B ≤ wc.heap.size := by { have := HB1.out; have := hc.1.size; omega }; obtain ⟨v', w', hr', hO', hM', hb'⟩ := hc.2.app2 hBc (src_of_sl Tryz.underlying57 byte_coded e19.sl (Ext.refl wc)) (by omega) (by omega); exact gives_app (a := a) (s := .tmp 15) (x := .tmp 19) rfl e15 rfl hr' ⟨⟨Nat.le_trans hBc hM'.1.size, hO', fun g hg => by { rcases hb' with hb' | hb'; { exact .inl (by rw [← hb']; exact hg) }; { have h1 := hb' g hg; have h2 := hc.1.size; exact .inr (by omega) } }⟩, hM'⟩))))
  refine AWk.two rfl rfl rfl (fun w2 h2 => ?_)
  simp only [closeAny, Act.put, List.setIfInBounds_toArray, List.set_cons_succ, List.set_cons_zero]
  intro v20 h20 v19 h19
  clear h19
  obtain ⟨g1, g2, g3⟩ := h20
  have hql2 : q < w2.heap.size := (HC.out w2 h2).2.1.lt
  have hw2 := (HC.out w2 h2).2.2
  have bq2 := (HC.out w2 h2).2.1
  have hex : s.extract 0 s.size = s := by
    apply ByteArray.ext
    rw [ByteArray.data_extract]
    exact Array.extract_size
  have hsl : s.data.toList.length = s.size := by rw [Array.length_toList]; rfl
  obtain ⟨v3, w3, hrun, hO3, hk3, hb3⟩ := g2.app g1 (src_text w2 s) (by rw [List.length_append]; omega) (by rw [hsl]; omega)
  obtain ⟨A3, c3, rfl, _⟩ := sl_get (code := byteC) hO3.sl
  generalize hN3 : ((acc ++ num) ++ s.data.toList).length = N3 at hrun hO3 hb3
  clear hN3
  have hq20 : v20.ownBlock ≠ some q := fun h => by
    rcases g3 q h with h | h
    · exact HQn.out h
    · omega
  have bq3 : Blk w3 q 57 #[.slice A acc.length c] := bq2.keep hk3 hq20
  have hq3 : (Value.slice A3 N3 c3).ownBlock ≠ some q := fun h => by
    rcases hb3 with hb3 | hb3
    · exact hq20 (by rw [← hb3]; exact h)
    · have := hb3 q h
      omega
  have HEnd : Hid (Blk (w3.setCell ⟨q, 0, none⟩ (.slice A3 N3 c3)) q 57 #[.slice A3 N3 c3] ∧ OwnB (acc ++ (num ++ s.data.toList)) B (.slice A3 N3 c3) (w3.setCell ⟨q, 0, none⟩ (.slice A3 N3 c3)) ∧ (Value.slice A3 N3 c3).ownBlock ≠ some q ∧ Keep (fun g => g = q ∨ (Value.slice A acc.length c).ownBlock = some g) w (w3.setCell ⟨q, 0, none⟩ (.slice A3 N3 c3))) := by
    have k4 : Keep (fun g => g = q) w3 (w3.setCell ⟨q, 0, none⟩ (.slice A3 N3 c3)) := Keep.setCell (S := fun g => g = q) (Keep.refl _ _) (p := ⟨q, 0, none⟩) (.inl rfl) _
    refine ⟨bq3.set 0 _, ?_, hq3, ?_⟩
    · have h9 : OwnB (acc ++ (num ++ s.data.toList)) B (.slice A3 N3 c3) w3 := by
        have e9 : (acc ++ num) ++ s.data.toList = acc ++ (num ++ s.data.toList) := List.append_assoc _ _ _
        rw [← e9]; exact hO3
      exact ⟨h9.1, ownsRow_keep h9.2 k4 fun g hg hS => hq3 (by rw [hg, hS])⟩
    · have k1 := Keep.of_ext (S := fun g => g = q ∨ (Value.slice A acc.length c).ownBlock = some g) X1.out
      have k2 : Keep (fun g => g = q ∨ (Value.slice A acc.length c).ownBlock = some g) w1 w2 := h2.1.mono fun g hg => .inr hg
      refine ⟨k4.os.trans (hk3.os.trans (k1.trans k2).os), k4.tape.trans (hk3.tape.trans (k1.trans k2).tape), k4.output.trans (hk3.output.trans (k1.trans k2).output), Nat.le_trans (k1.trans k2).size (Nat.le_trans hk3.size k4.size), fun k hk hn => ?_⟩
      have h12 := (k1.trans k2).block k hk hn
      have hkw : k < w2.heap.size := Nat.lt_of_lt_of_le hk (k1.trans k2).size
      have h23 := hk3.block k hkw fun h => by
        rcases g3 k h with h | h
        · exact hn (.inr h)
        · omega
      have h34 := k4.block k (Nat.lt_of_lt_of_le hkw hk3.size) fun h => hn (.inl h)
      exact h34.trans (h23.trans h12)
  have b0 := bq3.cell (i := 0) (v := .slice A acc.length c) rfl
  have z0 := bq3.frozen 0
  have l0 := bq3.lt
  clear hex
  clear bq2 bq3 hO3 hk3 hb3 g2 g3 h2 HC HF1 HQ1 HO1 HN
  at_builtin
  refine wpList_app rfl (.tmp 20) (.tmp 27) _ _ rfl rfl rfl hrun ?_
  go_wp2_with fail
  go_end0
  refine ⟨rfl, .slice A3 N3 c3, ?_⟩
  rw [hnum]
  exact HEnd.out
end Go.Proofs.YtmbgakjkhgdjnaaGreatDoor
namespace Go.Proofs.YtmbgakjkhgdjnaaGreatDoor
set_option linter.unusedSimpArgs false
set_option linter.unusedVariables false
open Go.RowKit

set_option maxRecDepth 100000 in
set_option maxHeartbeats 8000000 in
theorem putN_c (w : World) (q B : Nat) (n : Nat) (s : ByteArray) (acc : List UInt8) (A : Option Addr) (c : Nat) (hn : n < 9223372036854775808) (hq : Blk w q 57 #[.slice A acc.length c]) (hO : OwnB acc B (.slice A acc.length c) w) (hB : B ≤ w.heap.size) (hqn : (Value.slice A acc.length c).ownBlock ≠ some q) (hl : acc.length ≤ 65536) : Calls Tryz.prog 127 #[.agg #[.int .i64 n, .string s, .bool false], .pointer (some ⟨q, 0, none⟩)] w (fun en w' => en = .returned (.tuple #[]) ∧ ∃ v', Blk w' q 57 #[v'] ∧ OwnB (acc ++ lebL n) B v' w' ∧ v'.ownBlock ≠ some q ∧ Keep (fun g => g = q ∨ (Value.slice A acc.length c).ownBlock = some g) w w') := by
  have HF1 := hid (Blk.new w 146 #[.int .i64 n, .string s, .bool false])
  have HQ1 := hid (hq.alloc (.cells #[.int .i64 n, .string s, .bool false] 146))
  have HO1 := hid (hO.ext (Ext.alloc w (.cells #[.int .i64 n, .string s, .bool false] 146)))
  have X1 := hid (Ext.alloc w (.cells #[.int .i64 n, .string s, .bool false] 146))
  have HOw : Hid (∀ g, (Value.slice A acc.length c).ownBlock = some g → g < w.heap.size) := fun g hg => (row_block hO.2 g hg).2
  have HQn := hid hqn
  have hcap : acc.length ≤ c ∧ c ≤ 9223372036854775807 := by
    obtain ⟨A', c', hv, h1, h2, _⟩ := sl_get (code := byteC) hO.sl
    injection hv with _ _ hc
    subst hc
    unfold maxLen at h2
    exact ⟨h1, by omega⟩
  obtain ⟨hc1, hc2⟩ := hcap
  have d0 : decide ((65536 : Int) < acc.length) = false := decide_eq_false (by omega)
  have d0' : decide (65536 < acc.length) = false := decide_eq_false (by omega)
  have hql := hq.lt
  have HW := hid hB
  have HN := fun W => hid (number_c W n hn)
  have hnl := lebL_9 hn
  generalize hnum : lebL n = num at HN hnl
  have HNum := hid hnum
  clear hq hO hB hqn hnum
  generalize hw1 : w.alloc (.cells #[.int .i64 n, .string s, .bool false] 146) = w1 at HF1 HQ1 HO1 X1
  have hs1 : Hid (w1.heap.size = w.heap.size + 1) := by unfold Hid; rw [← hw1, World.size_alloc]
  have HW1 := hid hw1
  clear hw1
  have q0 := HQ1.out.cell (i := 0) (v := .slice A acc.length c) rfl
  have ql := HQ1.out.lt
  have f0 := HF1.out.cell (i := 0) (v := .int .i64 n) rfl
  have f2 := HF1.out.cell (i := 2) (v := .bool false) rfl
  have fl := HF1.out.lt
  go_enter Tryz.func127, Tryz.ntmps127
  rw [← HW1.out] at q0 ql f0 f2 fl
  go_wp2_with fail
  rw [HW1.out] at q0 ql f0 f2 fl ⊢
  refine wp_region_two (pre := ?pre7) (z1 := ?z17) (z2 := ?z27) ?hpre7 ?hz17 ?hz27 (by kernel_rfl) (by kernel_rfl) (by kernel_rfl) (by kernel_rfl) (by kernel_rfl) ?_
  case hpre7 => (simp only [List.dropLast_cons_cons, List.dropLast_singleton]; first | done | exact rfl)
  case hz17 => (simp only [List.dropLast_cons_cons, List.dropLast_singleton, List.getLast?_cons_cons, List.getLast?_singleton]; first | done | exact rfl)
  case hz27 => (simp only [List.getLast?_cons_cons, List.getLast?_singleton]; first | done | exact rfl)
  repeat (first
    | (refine AWq.val rfl rfl rfl rfl (fun K hK => ?_); go_big_quiet_op; refine hK _ ?_; clear hK K)
    | (refine AWq.skip rfl rfl rfl ?_; simp only [Act.put, List.setIfInBounds_toArray, List.set_cons_succ, List.set_cons_zero])
    | (refine AWq.callQ ((fun u W => OwnB num w1.heap.size u W)) ((fun u _ _ he h => h.ext he)) rfl Tryz.func128 (by kernel_rfl) (by kernel_rfl) rfl rfl rfl (fun wc hc => ?_) ?_; (· (simp only [argsOf, anyAt, ↓reduceIte, Nat.reduceEqDiff, Array.getD_eq_getD_getElem?, List.getElem?_toArray, List.getElem?_cons_succ, List.getElem?_cons_zero, Option.getD_some]; exact ((HN wc).out).mono fun e w' ⟨v, e1, e2, e3⟩ => ⟨v, e1, ⟨e2.1, row_weak9 e2.2 hc.size⟩, e3⟩))))
  refine AWq.two rfl rfl rfl (fun w2 x2 => ?_)
  simp only [closeAny, Act.put, List.setIfInBounds_toArray, List.set_cons_succ, List.set_cons_zero]
  intro v6 h6
  have hql2 : q < w2.heap.size := (HQ1.out.ext x2).lt
  have bq2 := HQ1.out.ext x2
  have hw12 := x2.size
  obtain ⟨v3, w3, hrun, hO3, hk3, hb3⟩ := (HO1.out.ext x2).app (by have := HW.out; have := hs1.out; omega) (src_of_sl Tryz.underlying57 byte_coded h6.sl (Ext.refl w2)) (by omega) (by omega)
  obtain ⟨A3, c3, rfl, _⟩ := sl_get (code := byteC) hO3.sl
  generalize hN3 : (acc ++ num).length = N3 at hrun hO3 hb3
  clear hN3
  have bq3 : Blk w3 q 57 #[.slice A acc.length c] := bq2.keep hk3 (fun h => HQn.out h)
  have hq3 : (Value.slice A3 N3 c3).ownBlock ≠ some q := fun h => by
    rcases hb3 with hb3 | hb3
    · exact HQn.out (by rw [← hb3]; exact h)
    · have := hb3 q h
      omega
  have HEnd : Hid (Blk (w3.setCell ⟨q, 0, none⟩ (.slice A3 N3 c3)) q 57 #[.slice A3 N3 c3] ∧ OwnB (acc ++ num) B (.slice A3 N3 c3) (w3.setCell ⟨q, 0, none⟩ (.slice A3 N3 c3)) ∧ (Value.slice A3 N3 c3).ownBlock ≠ some q ∧ Keep (fun g => g = q ∨ (Value.slice A acc.length c).ownBlock = some g) w (w3.setCell ⟨q, 0, none⟩ (.slice A3 N3 c3))) := by
    have k4 : Keep (fun g => g = q) w3 (w3.setCell ⟨q, 0, none⟩ (.slice A3 N3 c3)) := Keep.setCell (S := fun g => g = q) (Keep.refl _ _) (p := ⟨q, 0, none⟩) (.inl rfl) _
    refine ⟨bq3.set 0 _, ⟨hO3.1, ownsRow_keep hO3.2 k4 fun g hg hS => hq3 (by rw [hg, hS])⟩, hq3, ?_⟩
    have k1 := Keep.of_ext (S := fun g => g = q ∨ (Value.slice A acc.length c).ownBlock = some g) (X1.out.trans x2)
    exact (k1.trans (hk3.mono fun g hg => .inr hg)).trans (k4.mono fun g hg => .inl hg)
  have b0 := bq3.cell (i := 0) (v := .slice A acc.length c) rfl
  have z0 := bq3.frozen 0
  have l0 := bq3.lt
  clear bq2 bq3 hO3 hk3 hb3 h6 HF1 HQ1 HO1 HN q0 ql f0 f2 fl
  at_builtin
  refine wpList_app rfl (.tmp 3) (.tmp 6) _ _ rfl rfl rfl hrun ?_
  go_wp2_with fail
  go_end0
  refine ⟨rfl, .slice A3 N3 c3, ?_⟩
  exact HEnd.out
end Go.Proofs.YtmbgakjkhgdjnaaGreatDoor
namespace Go.Proofs.YtmbgakjkhgdjnaaGreatDoor
set_option linter.unusedSimpArgs false
set_option linter.unusedVariables false
open Go.RowKit

/-- A number, or a text. -/
structure FldI where
  n : Int
  s : ByteArray
  t : Bool
def FldI.cells (f : FldI) : List Value := [.int .i64 f.n, .string f.s, .bool f.t]
def FldI.val (f : FldI) : Value := .agg #[.int .i64 f.n, .string f.s, .bool f.t]
theorem fld_coded : Coded FldI.cells 3 := ⟨fun _ => rfl, fun a u hu => by simp [FldI.cells] at hu; rcases hu with rfl | rfl | rfl <;> rfl⟩
/-- Its bytes. -/
def FldI.enc (f : FldI) : List UInt8 := if f.t = true then lebL f.s.size ++ f.s.data.toList else lebL f.n.toNat
def FldI.ok (f : FldI) : Prop := f.s.size ≤ 65536 ∧ (f.t = false → 0 ≤ f.n) ∧ f.n ≤ 9223372036854775807
def encL (l : List FldI) : List UInt8 := (l.map FldI.enc).flatten
theorem encL_take {l : List FldI} {k : Nat} (h : k < l.length) : encL (l.take (k + 1)) = encL (l.take k) ++ l[k].enc := by
  unfold encL
  rw [List.take_succ_eq_append_getElem h, List.map_append, List.flatten_append]
  simp
theorem encL_le {l : List FldI} (k : Nat) : (encL (l.take k)).length ≤ (encL l).length := by
  have e : encL l = encL (l.take k) ++ encL (l.drop k) := by
    unfold encL
    rw [← List.flatten_append, ← List.map_append, List.take_append_drop]
  rw [e, List.length_append]
  omega
theorem encL_pos {l : List FldI} (h : 0 < l.length) : 0 < (encL l).length := by
  cases l with
  | nil => simp at h
  | cons f l =>
    unfold encL
    rw [List.map_cons, List.flatten_cons, List.length_append]
    have : 0 < f.enc.length := by
      unfold FldI.enc
      by_cases ht : f.t = true
      · rw [if_pos ht, List.length_append]
        have := lebL_pos f.s.size
        omega
      · rw [if_neg ht]; exact lebL_pos _
    omega
/-- A field is put: what comes of it. -/
def PutTo (w : World) (q B : Nat) (v : Value) (acc : List UInt8) (en : Ending) (w' : World) : Prop :=
  en = .returned (.tuple #[]) ∧ ∃ v', Blk w' q 57 #[v'] ∧ OwnB acc B v' w' ∧ v'.ownBlock ≠ some q ∧ Keep (fun g => g = q ∨ v.ownBlock = some g) w w'
theorem put_c (w : World) (q B : Nat) (f : FldI) (acc : List UInt8) (v : Value) (hf : f.ok) (hq : Blk w q 57 #[v]) (hO : OwnB acc B v w) (hB : B ≤ w.heap.size) (hqn : v.ownBlock ≠ some q) (hl : acc.length ≤ 65536) : Calls Tryz.prog 127 #[.agg #[.int .i64 f.n, .string f.s, .bool f.t], .pointer (some ⟨q, 0, none⟩)] w (PutTo w q B v (acc ++ f.enc)) := by
  obtain ⟨A, c, rfl, _⟩ := sl_get (code := byteC) hO.sl
  obtain ⟨n, s, t⟩ := f
  obtain ⟨h1, h2, h3⟩ := hf
  dsimp only at h1 h2 h3 ⊢
  cases t with
  | true => exact putT_c w q B n s acc A c hq hO hB hqn hl h1
  | false =>
    obtain ⟨k, rfl⟩ : ∃ k : Nat, n = (k : Int) := ⟨n.toNat, by have := h2 rfl; omega⟩
    exact putN_c w q B k s acc A c (by omega) hq hO hB hqn hl
set_option maxRecDepth 100000 in
set_option maxHeartbeats 8000000 in
theorem lay_c (w : World) (v : Value) (l : List FldI) (h : Sl w 3 v (l.map FldI.cells)) (hok : ∀ f ∈ l, f.ok) (hpos : 0 < l.length) (htot : (encL l).length ≤ 65536) : Calls Tryz.prog 78 #[v] w (Ret (.tuple #[.string ⟨(encL l).toArray⟩, .int .i64 0]) w) := by
  obtain ⟨A, c, rfl, h1, h2, h3⟩ := sl_get h
  unfold maxLen at h2
  obtain ⟨b, o, rfl, lb, hcell⟩ := h3 hpos
  have HQ0 := hid (Blk.new w 57 #[.slice none 0 0])
  have HE0 := hid (Ext.alloc w (.cells #[.slice none 0 0] 57))
  have HOk := hid (fun k (hk : k < l.length) => hok _ (List.getElem_mem hk))
  have HC := hid hcell
  have hql := Nat.le_refl w.heap.size
  clear h h3 hcell hok
  go_enter Tryz.func78, Tryz.ntmps78
  go_wp2_with fail
  generalize w.alloc (.cells #[.slice none 0 0] 57) = w0 at HQ0 HE0 ⊢
  generalize hq : w.heap.size = q at HQ0 ⊢
  have hq' : w.heap.size ≤ q := by omega
  clear hq hql
  go_loopw [13] (fun i wr => ∃ k : Nat, k ≤ l.length ∧ i = .int .i64 k ∧ Hid (Ext w0 wr)) (fun i _ => l.length - (intOf i).toNat)
  case atStart => exact ⟨0, by omega, rfl, Ext.refl _⟩
  case round =>
    obtain ⟨k, hk, rfl, HE⟩ := hrel
    by_cases hlt : k < l.length
    · have hf := HOk.out k hlt
      have c0 := (HE0.out.trans HE.out).cell (HC.out k hlt 0 _ rfl)
      have c1 := (HE0.out.trans HE.out).cell (HC.out k hlt 1 _ rfl)
      have c2 := (HE0.out.trans HE.out).cell (HC.out k hlt 2 _ rfl)
      rw [Nat.add_zero] at c0
      have lbr := Nat.lt_of_lt_of_le lb (HE0.out.trans HE.out).size
      obtain ⟨f1, f2, f3⟩ := hf
      generalize l[k] = f at c0 c1 c2 f1 f2 f3
      obtain ⟨n, s, t⟩ := f
      dsimp only at c0 c1 c2 f1 f2 f3
      cases t with
      | true =>
        clear f1 f2 f3
        go_wp2_with fail
        go_roundw
        case rel => exact ⟨k + 1, by omega, by go_num, HE.out.trans (Ext.alloc _ _)⟩
        case measure => simp [intOf]; omega
      | false =>
        have dn : decide (n < 0) = false := decide_eq_false (by have := f2 rfl; omega)
        clear f1 f2 f3
        go_wp2_with fail
        go_roundw
        case rel => exact ⟨k + 1, by omega, by go_num, HE.out.trans (Ext.alloc _ _)⟩
        case measure => simp [intOf]; omega
    · obtain rfl : k = l.length := by omega
      have HQ1 := hid (HQ0.out.ext HE.out)
      have HE1 := hid (HE0.out.trans HE.out)
      clear HQ0 HE0 HE
      go_wp2_with fail
      go_loopw [28] (fun i W => ∃ (k : Nat) (bv : Value), k ≤ l.length ∧ i = .int .i64 k ∧ Hid (Ext w W) ∧ Hid (Blk W q 57 #[bv]) ∧ Hid (OwnB (encL (l.take k)) w.heap.size bv W) ∧ Hid (bv.ownBlock ≠ some q)) (fun i _ => l.length - (intOf i).toNat)
      case atStart => exact ⟨0, _, by omega, rfl, HE1.out, HQ1.out, by rw [List.take_zero]; exact OwnB.nil _ _, by unfold Hid; simp [Value.ownBlock]⟩
      case round =>
        obtain ⟨k, bv, hk2, rfl, HE2, HQ2, HO2, HN2⟩ := hrel
        by_cases hlt2 : k < l.length
        · have hf := HOk.out k hlt2
          have c0 := HE2.out.cell (HC.out k hlt2 0 _ rfl)
          have c1 := HE2.out.cell (HC.out k hlt2 1 _ rfl)
          have c2 := HE2.out.cell (HC.out k hlt2 2 _ rfl)
          rw [Nat.add_zero] at c0
          have lbr := Nat.lt_of_lt_of_le lb HE2.out.size
          have HT := hid (encL_take hlt2)
          have hle := Nat.le_trans (encL_le (l := l) k) htot
          have HF := hid hf
          have HP := fun W (hW : Ext wr W) => hid (put_c W q w.heap.size l[k] (encL (l.take k)) bv hf (HQ2.out.ext hW) (HO2.out.ext hW) (Nat.le_trans HE2.out.size hW.size) HN2.out hle)
          clear hf
          generalize l[k] = f at c0 c1 c2 HP HT HF
          obtain ⟨n, s, t⟩ := f
          dsimp only at c0 c1 c2 HP
          go_wp2_with fail
          refine ((HP _ (Ext.alloc _ _)).out).mono ?_
          rintro en w3 ⟨rfl, v', g1, g2, g3, g4⟩
          have HQ3 := hid g1
          have HO3 := hid g2
          have HN3 := hid g3
          have HE3 : Hid (Ext w w3) := g4.toExt (HE2.out.trans (Ext.alloc _ _)) fun g hg => by
            rcases hg with rfl | hg
            · exact hq'
            · exact (row_block HO2.out.2 g hg).1
          clear g1 g2 g3 g4 HP
          go_wp2_with fail
          go_roundw
          case rel => exact ⟨k + 1, v', by omega, by go_num, HE3.out, HQ3.out, by rw [HT.out]; exact HO3.out, HN3.out⟩
          case measure => simp [intOf]; omega
        · obtain rfl : k = l.length := by omega
          rw [List.take_length] at HO2
          have hcv := conv_row HO2.out (encL_pos hpos)
          obtain ⟨A3, c3, rfl, _⟩ := sl_get (code := byteC) HO2.out.sl
          have b0 := HQ2.out.cell (i := 0) (v := .slice A3 (encL l).length c3) rfl
          have bl := HQ2.out.lt
          have dl : decide ((65536 : Int) < (encL l).length) = false := decide_eq_false (by omega)
          have dl' : decide (65536 < (encL l).length) = false := decide_eq_false (by omega)
          clear HOk HC
          go_wp2_with fail
          go_ret2
          exact ⟨rfl, HE2.out⟩
end Go.Proofs.YtmbgakjkhgdjnaaGreatDoor
