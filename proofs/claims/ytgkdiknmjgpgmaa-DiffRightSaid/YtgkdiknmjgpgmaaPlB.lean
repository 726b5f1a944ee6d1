/-
  diff.Play: what each turn does.
-/
import Derived.Test.YtgkdiknmjgpgmaaPlA
namespace Go.Proofs.Ytgkdiknmjgpgmaa
set_option linter.unusedSimpArgs false
set_option linter.unusedVariables false
open Go.RowKit Go.Maps

def ShortT (t : TurnI) : Prop := t.name.size ≤ 1000 ∧ t.from_.size ≤ 1000 ∧ t.d.size ≤ 1000
/-- What a step leaves: the map reads as m. -/
def Left (w : World) (b n : Nat) (m : SMap) : Ending → World → Prop := fun e w' => e = .returned (.tuple #[]) ∧ ∃ D, w'.ownsMap Try.prog 9 RS b n D ∧ SIs D m ∧ Keep (fun q => q = b) w w'
theorem ownsMap_ext {w w' : World} {b n : Nat} {D : DataW Value} (h : w.ownsMap Try.prog 9 RS b n D) (he : Ext w w') : w'.ownsMap Try.prog 9 RS b n D := by
  obtain ⟨es, clock, hb, r⟩ := h
  exact ⟨es, clock, he.heap hb, r⟩
theorem ownsMap_keep {S : Nat → Prop} {w w' : World} {b n : Nat} {D : DataW Value} (h : w.ownsMap Try.prog 9 RS b n D) (he : Keep S w w') (hs : ¬ S b) : w'.ownsMap Try.prog 9 RS b n D := by
  have hl := h.lt
  obtain ⟨es, clock, hb, r⟩ := h
  exact ⟨es, clock, (he.block b hl hs).trans hb, r⟩
set_option maxRecDepth 100000 in
set_option maxHeartbeats 1000000 in
theorem do2_c (w : World) (t : TurnI) (q b n : Nat) (D : DataW Value) (m : SMap) (hq : Blk w q 72 #[.map (some b)]) (ho : w.ownsMap Try.prog 9 RS b n D) (hm : SIs D m) (hs : ShortT t) : Calls Try.prog 52 #[t.val, .pointer (some ⟨q, 0, none⟩)] w (Left w b n (delM m t.name)) := by
  unfold TurnI.val
  have e1 := Ext.alloc w (.cells #[.int .i64 t.kind, .string t.name, .string t.from_, .string t.d] 58)
  have HM := hid (ownsMap_ext ho e1)
  have q0 := (hq.ext e1).cell (i := 0) rfl
  have lq := (hq.ext e1).lt
  have HS := hid (hm.del t.name)
  have hk := keyS hs.1
  have HE := hid e1
  clear hq ho hm e1
  go_enter Try.func52, Try.ntmps52
  go_wp2_with (at_delete; refine wpList_delete_own _ rfl _ _ 72 9 rfl 9 sLaw Try.underlying72 RS b n D rfl HM.out _ _ rfl hk ?_; intro w1 hown1 hturn1)
  go_end0
  exact ⟨rfl, _, hown1, HS.out, (Keep.of_ext HE.out).trans (Keep.of_turned hturn1)⟩
set_option maxRecDepth 100000 in
set_option maxHeartbeats 1000000 in
theorem do3_c (w : World) (t : TurnI) (q b n : Nat) (D : DataW Value) (m : SMap) (hq : Blk w q 72 #[.map (some b)]) (ho : w.ownsMap Try.prog 9 RS b n D) (hm : SIs D m) (hs : ShortT t) : Calls Try.prog 53 #[t.val, .pointer (some ⟨q, 0, none⟩)] w (Left w b n (delM m t.from_)) := by
  unfold TurnI.val
  have e1 := Ext.alloc w (.cells #[.int .i64 t.kind, .string t.name, .string t.from_, .string t.d] 58)
  have HM := hid (ownsMap_ext ho e1)
  have q0 := (hq.ext e1).cell (i := 0) rfl
  have lq := (hq.ext e1).lt
  have HS := hid (hm.del t.from_)
  have hk := keyS hs.2.1
  have HE := hid e1
  clear hq ho hm e1
  go_enter Try.func53, Try.ntmps53
  go_wp2_with (at_delete; refine wpList_delete_own _ rfl _ _ 72 9 rfl 9 sLaw Try.underlying72 RS b n D rfl HM.out _ _ rfl hk ?_; intro w1 hown1 hturn1)
  go_end0
  exact ⟨rfl, _, hown1, HS.out, (Keep.of_ext HE.out).trans (Keep.of_turned hturn1)⟩
set_option maxRecDepth 100000 in
set_option maxHeartbeats 1000000 in
theorem do5_c (w : World) (t : TurnI) (q b n : Nat) (D : DataW Value) (m : SMap) (hq : Blk w q 72 #[.map (some b)]) (ho : w.ownsMap Try.prog 9 RS b n D) (hm : SIs D m) (hs : ShortT t) (hn : n < 1000000) : Calls Try.prog 55 #[t.val, .pointer (some ⟨q, 0, none⟩)] w (Left w b (n + 1) (putM m t.name t.d)) := by
  unfold TurnI.val
  have e1 := Ext.alloc w (.cells #[.int .i64 t.kind, .string t.name, .string t.from_, .string t.d] 58)
  have HM := hid (ownsMap_ext ho e1)
  have q0 := (hq.ext e1).cell (i := 0) rfl
  have lq := (hq.ext e1).lt
  have HS := hid (hm.put hs.1 hs.2.2)
  have hk := keyS hs.1
  have hv := valS hs.2.2
  have HE := hid e1
  clear hq ho hm e1
  go_enter Try.func55, Try.ntmps55
  go_wp2_with (at_mapUpdate; refine wpList_mapUpdate_own _ rfl _ _ _ 72 rfl 9 9 sLaw Try.underlying72 RS b n D rfl HM.out (by unfold maxLen; omega) _ _ _ rfl rfl hk _ [] hv ?_; intro w1 hown1 hgrow1)
  go_end0
  exact ⟨rfl, _, hown1, HS.out, (Keep.of_ext HE.out).trans (Keep.of_grownR hgrow1)⟩
set_option maxRecDepth 100000 in
set_option maxHeartbeats 1000000 in
theorem do4_c (w : World) (t : TurnI) (q b n q1 b1 n1 : Nat) (D D1 : DataW Value) (m m1 : SMap) (hq : Blk w q 72 #[.map (some b)]) (ho : w.ownsMap Try.prog 9 RS b n D) (hm : SIs D m) (hq1 : Blk w q1 72 #[.map (some b1)]) (ho1 : w.ownsMap Try.prog 9 RS b1 n1 D1) (hm1 : SIs D1 m1) (hs : ShortT t) (hn : n < 1000000) :
    Calls Try.prog 54 #[t.val, .pointer (some ⟨q1, 0, none⟩), .pointer (some ⟨q, 0, none⟩)] w (Left w b (n + 1) (putM m t.name (getM m1 t.from_))) := by
  unfold TurnI.val
  have e1 := Ext.alloc w (.cells #[.int .i64 t.kind, .string t.name, .string t.from_, .string t.d] 58)
  have HM := hid (ownsMap_ext ho e1)
  have q0 := (hq.ext e1).cell (i := 0) rfl
  have lq := (hq.ext e1).lt
  have p0 := (hq1.ext e1).cell (i := 0) rfl
  have lp := (hq1.ext e1).lt
  have hsz := getM_size hm1 t.from_
  have hlook := hm1.look (ownsMap_ext ho1 e1) hs.2.1
  have HS := hid (hm.put hs.1 hsz)
  have hk := keyS hs.1
  have hv := valS hsz
  have HE := hid e1
  clear hq ho hm hq1 ho1 hm1 e1
  generalize getM m1 t.from_ = g at hlook HS hv hsz
  go_enter Try.func54, Try.ntmps54
  go_wp2_with (at_mapUpdate; refine wpList_mapUpdate_own _ rfl _ _ _ 72 rfl 9 9 sLaw Try.underlying72 RS b n D rfl HM.out (by unfold maxLen; omega) _ _ _ rfl rfl hk _ [] hv ?_; intro w1 hown1 hgrow1)
  go_end0
  exact ⟨rfl, _, hown1, HS.out, (Keep.of_ext HE.out).trans (Keep.of_grownR hgrow1)⟩
end Go.Proofs.Ytgkdiknmjgpgmaa
