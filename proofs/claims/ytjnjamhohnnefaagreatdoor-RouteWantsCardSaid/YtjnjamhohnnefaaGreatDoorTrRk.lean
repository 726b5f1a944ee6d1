/-
  What trees that come in read as.
-/
import Derived.Test.YtjnjamhohnnefaaGreatDoorOpZ
import Derived.Test.YtjnjamhohnnefaaGreatDoorPkG
namespace Go.Proofs.YtjnjamhohnnefaaGreatDoor
set_option linter.unusedSimpArgs false
set_option linter.unusedVariables false
open Go.RowKit Go.ChangeShapes Go.WideShapes Go.ChangeAt Go.Deep

/-- A slice and what it reads as. -/
structure RowI (α : Type) where
  v : Value
  l : List α
theorem opens_rows {P : Program} {w : World} {t e : TypeId} {α : Type} {code : α → List Value} {ok : α → Prop} (ht : P.underlying t = some (.slice e)) (he : Opens P w e code ok) {sz : Nat} (hsz : P.cellsOf e = sz) (hpos : 0 < sz) (hlen : ∀ a, (code a).length = sz) : Opens P w t (fun s : RowI α => [s.v]) (fun s => Sl w sz s.v (s.l.map code) ∧ ∀ a ∈ s.l, ok a) := by
  intro H enc fuel cs x h
  have hv : ∃ v, cs = [v] := by
    rcases open_slice ht h with ⟨hcs, _⟩ | ⟨a, len, cap, m, n, D, Pl, hcs, _⟩
    · exact ⟨_, hcs⟩
    · exact ⟨_, hcs⟩
  obtain ⟨v, rfl⟩ := hv
  obtain ⟨l, h1, h2⟩ := opens_slice ht he hsz hpos hlen fuel v x h
  exact ⟨⟨v, l⟩, rfl, h1, h2⟩
theorem cellsInts : Tryz.prog.cellsOf 22 = 1 := by kernel_rfl
theorem cellsFl : Tryz.prog.cellsOf 30 = 1 := by kernel_rfl
theorem cellsFls : Tryz.prog.cellsOf 23 = 1 := by kernel_rfl
theorem cellsTree : Tryz.prog.cellsOf 25 = 2 := by kernel_rfl
structure TreeI where
  up : List Int
  Fl : List (List ClauseI)
  A : Option Addr
  AF : Option Addr
  c : Nat
  cF : Nat
def TreeI.cells (t : TreeI) : List Value := [.slice t.A t.up.length t.c, .slice t.AF t.Fl.length t.cF]
def TreeI.ok (w : World) (t : TreeI) : Prop := Sl w 1 (.slice t.A t.up.length t.c) (Ints t.up) ∧ FsAt w t.AF t.cF t.Fl
theorem opens_filter (w : World) : Opens Tryz.prog w 30 (fun s : RowI ClauseI => [s.v]) (fun s => Sl w 3 s.v (s.l.map ClauseI.cells) ∧ ∀ a ∈ s.l, True) := opens_rows Tryz.underlying30 (opens_clause w) cellsClause (by decide) (fun _ => rfl)
set_option maxRecDepth 100000 in
theorem opens_tree (w : World) : Opens Tryz.prog w 25 TreeI.cells (TreeI.ok w) := by
  intro H enc fuel cs x h
  obtain ⟨xs, n, _, _, hlen, hxs, hf⟩ := DataW.trod_struct Tryz.underlying25 h
  rw [cellsTree] at hlen
  match cs, hlen with
  | [c0, c1], _ =>
    obtain ⟨a, ha, oa, _⟩ := field_at hxs hf (i := 0) rfl cellsInts (opens_rows Tryz.underlying22 (opens_i64 w) cellsInt (by decide) (fun _ => rfl))
    obtain ⟨b, hb, ob, oc⟩ := field_at hxs hf (i := 1) rfl cellsFls (opens_rows Tryz.underlying23 (opens_filter w) cellsFl (by decide) (fun _ => rfl))
    simp at ha hb
    subst ha hb
    have oa' : Sl w 1 a.v (Ints a.l) := oa
    obtain ⟨A, c, hA, _⟩ := oa
    obtain ⟨AF, cF, hF, _⟩ := id ob
    rw [List.length_map] at hA hF
    rw [hA] at oa'
    rw [hF] at ob
    refine ⟨⟨a.l, b.l.map (·.l), A, AF, c, cF⟩, ?_, oa', b.l.map (·.v), by simp, ?_, fun i h h' => ?_⟩
    · show [a.v, b.v] = [_, .slice AF (b.l.map (·.l)).length cF]
      rw [List.length_map, hA, hF]
    · rw [List.map_map, List.length_map]
      exact ob
    · simp only [List.getElem_map]
      exact (oc _ (List.getElem_mem _)).1
end Go.Proofs.YtjnjamhohnnefaaGreatDoor
