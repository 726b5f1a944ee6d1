/-
  What messages that come in read as (their knowledge as slices alone).
-/
import Derived.Test.YtanflgipdiogaaaDoorOpEk
import Derived.Test.YtanflgipdiogaaaDoorQcJ
import Derived.OpenShut
namespace Go.Proofs.YtanflgipdiogaaaDoor
set_option linter.unusedSimpArgs false
set_option linter.unusedVariables false
open Go.RowKit Go.ChangeShapes Go.WideShapes Go.ChangeAt Go.Deep

theorem part_at {α : Type} (cs : List α) (o k : Nat) : cs.drop o = (cs.drop o).take k ++ cs.drop (o + k) := by
  rw [← List.drop_drop, List.take_append_drop]
theorem ints_ofM (ok : Int → Prop) : ∀ cs : List Value, (∀ i, i < cs.length → ∃ z, cs[i]? = some (.int .i64 z) ∧ ok z) → ∃ v : List Int, cs = v.map (Value.int .i64) ∧ v.length = cs.length ∧ ∀ z ∈ v, ok z
  | [], _ => ⟨[], rfl, rfl, fun z hz => by cases hz⟩
  | c :: cs, h => by
    obtain ⟨z, h1, h2⟩ := h 0 (by simp)
    obtain ⟨v, h3, h4, h5⟩ := ints_ofM ok cs (fun i hi => by
      have := h (i + 1) (by simp; omega)
      simpa using this)
    simp at h1
    refine ⟨z :: v, by rw [h1, h3]; rfl, by simp [h4], fun y hy => ?_⟩
    rcases List.mem_cons.1 hy with rfl | hy
    · exact h2
    · exact h5 y hy
theorem cellsVecM : Tryd.prog.cellsOf 59 = 65 := by kernel_rfl
theorem cellsSidM : Tryd.prog.cellsOf 51 = 3 := by kernel_rfl
theorem cellsKnowM : Tryd.prog.cellsOf 56 = 2 := by kernel_rfl
theorem cellsMsgM : Tryd.prog.cellsOf 62 = 147 := by kernel_rfl
theorem cellsRgM : Tryd.prog.cellsOf 70 = 2 := by kernel_rfl
theorem cellsClM : Tryd.prog.cellsOf 72 = 3 := by kernel_rfl
set_option maxRecDepth 100000 in
theorem opens_vecM (w : World) : Opens Tryd.prog w 59 intsV (fun v => v.length = 65 ∧ ∀ z ∈ v, in64 z) := by
  intro H enc fuel cs x h
  obtain ⟨xs, n, _, _, hlen, hxl, hf⟩ := DataW.trod_array Tryd.underlying59 h
  rw [cellsVecM] at hlen
  obtain ⟨v, h1, h2, h3⟩ := ints_ofM okI cs (fun i hi => by
    have hi65 : i < 65 := by omega
    have hx := hf i hi65
    rw [cellsInt, Nat.mul_one] at hx
    have hlt : i < xs.length := by omega
    rw [List.getElem?_eq_getElem hlt] at hx
    obtain ⟨z, hz, oz⟩ := opens_i64 w H enc _ _ _ hx
    refine ⟨z, ?_, oz⟩
    have h0 : ((cs.drop i).take 1)[0]? = some (.int .i64 z) := by rw [hz]; rfl
    rw [List.getElem?_take, if_pos (by omega), List.getElem?_drop, Nat.add_zero] at h0
    exact h0)
  exact ⟨v, h1, by omega, fun z hz => (h3 z hz).bounds⟩
/-- A slice, as such. -/
theorem opens_slv {P : Program} {w : World} {t e : TypeId} (ht : P.underlying t = some (.slice e)) : Opens P w t (fun s : SlV => [s.val]) (fun _ => True) := by
  intro H enc fuel cs x h
  rcases open_slice ht h with ⟨hcs, _⟩ | ⟨a, len, cap, m, n, D, Pl, hcs, _⟩
  · exact ⟨nilS, hcs, trivial⟩
  · exact ⟨⟨some a, len, cap⟩, hcs, trivial⟩
/-- A slice and what it reads as. -/
theorem opens_slP {P : Program} {w : World} {t e : TypeId} {α : Type} {code : α → List Value} {ok : α → Prop} (ht : P.underlying t = some (.slice e)) (he : Opens P w e code ok) {sz : Nat} (hsz : P.cellsOf e = sz) (hpos : 0 < sz) (hlen : ∀ a, (code a).length = sz) :
    Opens P w t (fun s : SlV => [s.val]) (fun s => ∃ l : List α, Sl w sz s.val (l.map code) ∧ ∀ a ∈ l, ok a) := by
  intro H enc fuel cs x h
  obtain ⟨s, hs, _⟩ := opens_slv (w := w) ht H enc fuel cs x h
  subst hs
  obtain ⟨l, h1, h2⟩ := opens_slice ht he hsz hpos hlen fuel s.val x h
  exact ⟨s, rfl, l, h1, h2⟩
set_option maxRecDepth 100000 in
theorem opens_sid (w : World) : Opens Tryd.prog w 51 (fun p : Int × Int × Int => [.int .i64 p.1, .int .i64 p.2.1, .int .i64 p.2.2]) (fun p => in64 p.1 ∧ in64 p.2.1 ∧ in64 p.2.2) := by
  intro H enc fuel cs x h
  obtain ⟨xs, n, _, _, hlen, hxs, hf⟩ := DataW.trod_struct Tryd.underlying51 h
  rw [cellsSidM] at hlen
  match cs, hlen with
  | [c0, c1, c2], _ =>
    obtain ⟨a, ha, oa⟩ := field_at hxs hf (i := 0) rfl cellsInt (opens_i64 w)
    obtain ⟨b, hb, ob⟩ := field_at hxs hf (i := 1) rfl cellsInt (opens_i64 w)
    obtain ⟨c, hc, oc⟩ := field_at hxs hf (i := 2) rfl cellsInt (opens_i64 w)
    simp at ha hb hc
    subst ha hb hc
    exact ⟨⟨a, b, c⟩, rfl, oa.bounds, ob.bounds, oc.bounds⟩
set_option maxRecDepth 100000 in
theorem opens_knowS (w : World) : Opens Tryd.prog w 56 (fun p : SlV × SlV => [p.1.val, p.2.val]) (fun _ => True) := by
  intro H enc fuel cs x h
  obtain ⟨xs, n, _, _, hlen, hxs, hf⟩ := DataW.trod_struct Tryd.underlying56 h
  rw [cellsKnowM] at hlen
  match cs, hlen with
  | [c0, c1], _ =>
    obtain ⟨a, ha, _⟩ := field_at hxs hf (i := 0) (sz := 1) rfl (by kernel_rfl) (opens_slv (w := w) Tryd.underlying53)
    obtain ⟨b, hb, _⟩ := field_at hxs hf (i := 1) (sz := 1) rfl (by kernel_rfl) (opens_slv (w := w) Tryd.underlying54)
    have ha' : [c0] = [a.val] := ha
    have hb' : [c1] = [b.val] := hb
    simp at ha' hb'
    subst ha' hb'
    exact ⟨⟨a, b⟩, rfl, trivial⟩
set_option maxRecDepth 100000 in
theorem opens_rgM (w : World) : Opens Tryd.prog w 70 Ver.cells (fun v => okI v.by_ ∧ okI v.n) := by
  intro H enc fuel cs x h
  obtain ⟨xs, n, _, _, hlen, hxs, hf⟩ := DataW.trod_struct Tryd.underlying70 h
  rw [cellsRgM] at hlen
  match cs, hlen with
  | [c0, c1], _ =>
    obtain ⟨a, ha, oa⟩ := field_at hxs hf (i := 0) rfl cellsInt (opens_i64 w)
    obtain ⟨b, hb, ob⟩ := field_at hxs hf (i := 1) rfl cellsInt (opens_i64 w)
    simp at ha hb
    subst ha hb
    exact ⟨⟨a, b⟩, rfl, oa, ob⟩
set_option maxRecDepth 100000 in
theorem opens_clM (w : World) : Opens Tryd.prog w 72 ClauseI.cells (fun c => in64 c.lo ∧ in64 c.hi) := by
  intro H enc fuel cs x h
  obtain ⟨xs, n, _, _, hlen, hxs, hf⟩ := DataW.trod_struct Tryd.underlying72 h
  rw [cellsClM] at hlen
  match cs, hlen with
  | [c0, c1, c2], _ =>
    obtain ⟨a, ha, oa⟩ := field_at hxs hf (i := 0) rfl cellsStr (opens_string Tryd.underlying9)
    obtain ⟨b, hb, ob⟩ := field_at hxs hf (i := 1) rfl cellsRgM (opens_rgM w)
    simp [Ver.cells] at ha hb
    obtain ⟨hb1, hb2⟩ := hb
    subst ha hb1 hb2
    exact ⟨⟨a, b.by_, b.n⟩, rfl, ob.1.bounds, ob.2.bounds⟩
/-- What a message that comes in reads as. -/
def MsgIn (w : World) (a : MsgC) : Prop :=
  (∃ cl : List ClauseI, Sl w 3 a.f.val (cl.map ClauseI.cells) ∧ ∀ c ∈ cl, in64 c.lo ∧ in64 c.hi) ∧ (∃ hl : List PairI, Sl w 4 a.held.val (hl.map PairI.cells) ∧ ∀ p ∈ hl, (in64 p.a.by_ ∧ in64 p.a.n) ∧ (in64 p.b.by_ ∧ in64 p.b.n)) ∧
  (∃ el : List EntI, Sl w 21 a.ents.val (el.map EntI.cells) ∧ ∀ e ∈ el, EntIn e) ∧ (∃ nl : List Ver, Sl w 2 a.not.val (nl.map Ver.cells) ∧ ∀ v ∈ nl, okI v.by_ ∧ okI v.n)
set_option maxRecDepth 100000 in
theorem opens_msg (w : World) : Opens Tryd.prog w 62 MsgC.list (MsgIn w) := by
  intro H enc fuel cs x h
  obtain ⟨xs, n, _, _, hlen, hxs, hf⟩ := DataW.trod_struct Tryd.underlying62 h
  rw [cellsMsgM] at hlen
  obtain ⟨f0, e0, _⟩ := field_at hxs hf (i := 0) rfl cellsInt (opens_i64 w)
  obtain ⟨f1, e1, _⟩ := field_at hxs hf (i := 1) rfl cellsSidM (opens_sid w)
  obtain ⟨f2, e2, _⟩ := field_at hxs hf (i := 2) rfl cellsSidM (opens_sid w)
  obtain ⟨f3, e3, _⟩ := field_at hxs hf (i := 3) rfl cellsBool (opens_bool Tryd.underlying4)
  obtain ⟨f4, e4, o4⟩ := field_at hxs hf (i := 4) (sz := 1) rfl (by kernel_rfl) (opens_slP (w := w) Tryd.underlying52 (opens_clM w) cellsClM (by omega) (fun _ => rfl))
  obtain ⟨f5, e5, _⟩ := field_at hxs hf (i := 5) rfl cellsKnowM (opens_knowS w)
  obtain ⟨f6, e6, o6⟩ := field_at hxs hf (i := 6) (sz := 1) rfl (by kernel_rfl) (opens_slP (w := w) Tryd.underlying57 (opens_pairP w) cellsPairP (by omega) (fun _ => rfl))
  obtain ⟨f7, e7, _⟩ := field_at hxs hf (i := 7) rfl cellsInt (opens_i64 w)
  obtain ⟨f8, e8, _⟩ := field_at hxs hf (i := 8) rfl cellsBool (opens_bool Tryd.underlying4)
  obtain ⟨f9, e9, o9⟩ := field_at hxs hf (i := 9) (sz := 1) rfl (by kernel_rfl) (opens_slP (w := w) Tryd.underlying22 (opens_ent w) cellsEnt (by omega) (fun _ => rfl))
  obtain ⟨f10, e10, o10⟩ := field_at hxs hf (i := 10) rfl cellsVecM (opens_vecM w)
  obtain ⟨f11, e11, o11⟩ := field_at hxs hf (i := 11) rfl cellsVecM (opens_vecM w)
  obtain ⟨f12, e12, o12⟩ := field_at hxs hf (i := 12) (sz := 1) rfl (by kernel_rfl) (opens_slP (w := w) Tryd.underlying60 (opens_ver w) cellsVer (by omega) (fun _ => rfl))
  obtain ⟨f13, e13, _⟩ := field_at hxs hf (i := 13) rfl cellsInt (opens_i64 w)
  refine ⟨⟨f0, f1.1, f1.2.1, f1.2.2, f2.1, f2.2.1, f2.2.2, f3, f4, f5.1, f5.2, f6, f7, f8, f9, f10, f11, f12, f13, o10.1, o11.1⟩, ?_, o4, o6, o9, o12⟩
  have hend : cs.drop 147 = [] := List.drop_eq_nil_of_le (by omega)
  have s0 := part_at cs 0 1
  have s1 := part_at cs 1 3
  have s2 := part_at cs 4 3
  have s3 := part_at cs 7 1
  have s4 := part_at cs 8 1
  have s5 := part_at cs 9 2
  have s6 := part_at cs 11 1
  have s7 := part_at cs 12 1
  have s8 := part_at cs 13 1
  have s9 := part_at cs 14 1
  have s10 := part_at cs 15 65
  have s11 := part_at cs 80 65
  have s12 := part_at cs 145 1
  have s13 := part_at cs 146 1
  have g0 : (cs.drop 0).take 1 = _ := e0
  have g1 : (cs.drop 1).take 3 = _ := e1
  have g2 : (cs.drop 4).take 3 = _ := e2
  have g3 : (cs.drop 7).take 1 = _ := e3
  have g4 : (cs.drop 8).take 1 = _ := e4
  have g5 : (cs.drop 9).take 2 = _ := e5
  have g6 : (cs.drop 11).take 1 = _ := e6
  have g7 : (cs.drop 12).take 1 = _ := e7
  have g8 : (cs.drop 13).take 1 = _ := e8
  have g9 : (cs.drop 14).take 1 = _ := e9
  have g10 : (cs.drop 15).take 65 = _ := e10
  have g11 : (cs.drop 80).take 65 = _ := e11
  have g12 : (cs.drop 145).take 1 = _ := e12
  have g13 : (cs.drop 146).take 1 = _ := e13
  rw [g0] at s0
  rw [g1] at s1
  rw [g2] at s2
  rw [g3] at s3
  rw [g4] at s4
  rw [g5] at s5
  rw [g6] at s6
  rw [g7] at s7
  rw [g8] at s8
  rw [g9] at s9
  rw [g10] at s10
  rw [g11] at s11
  rw [g12] at s12
  rw [g13, hend] at s13
  have := s0.trans (congrArg _ (s1.trans (congrArg _ (s2.trans (congrArg _ (s3.trans (congrArg _ (s4.trans (congrArg _ (s5.trans (congrArg _ (s6.trans (congrArg _ (s7.trans (congrArg _ (s8.trans (congrArg _ (s9.trans (congrArg _ (s10.trans (congrArg _ (s11.trans (congrArg _ (s12.trans (congrArg _ s13)))))))))))))))))))))))))
  rw [List.drop_zero] at this
  rw [this]
  rfl
end Go.Proofs.YtanflgipdiogaaaDoor
