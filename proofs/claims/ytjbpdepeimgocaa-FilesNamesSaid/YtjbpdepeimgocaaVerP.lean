/-
  Versions and stamps: plain words.
-/
import Derived.Test.YtjbpdepeimgocaaSrt
namespace Go.Proofs.Ytjbpdepeimgocaa
set_option linter.unusedSimpArgs false
set_option linter.unusedVariables false
open Go.RowKit

structure Ver where
  by_ : Int
  n : Int
structure Stamp where
  v : Ver
  time : Int
def Ver.val (v : Ver) : Value := .agg #[.int .i64 v.by_, .int .i64 v.n]
def Stamp.val (s : Stamp) : Value := .agg #[.int .i64 s.v.by_, .int .i64 s.v.n, .int .i64 s.time]
def Ver.cells (v : Ver) : List Value := [.int .i64 v.by_, .int .i64 v.n]
def Stamp.cells (s : Stamp) : List Value := [.int .i64 s.v.by_, .int .i64 s.v.n, .int .i64 s.time]

def cmpI (a b : Int) : Int := if a < b then -1 else if b < a then 1 else 0
def orI : List Int → Int
  | [] => 0
  | x :: l => if x = 0 then orI l else x
theorem orI_drop (zs : List Int) (k : Nat) (h : k < zs.length) (h0 : zs[k] = 0) : orI (zs.drop k) = orI (zs.drop (k+1)) := by
  rw [List.drop_eq_getElem_cons h, orI, if_pos h0]
theorem orI_hit (zs : List Int) (k : Nat) (h : k < zs.length) (h0 : ¬ zs[k] = 0) : orI (zs.drop k) = zs[k] := by
  rw [List.drop_eq_getElem_cons h, orI, if_neg h0]

/-- cmp.Or over a slice of ints. -/
def Ints (l : List Int) : List (List Value) := l.map fun z => [.int .i64 z]
theorem sl_ints {w : World} {g : Nat} {t : TypeId} {zs : List Int} (h : Blk w g t (zs.map (Value.int .i64)).toArray) (hm : zs.length ≤ maxLen) : Sl w 1 (.slice (some ⟨g, 0, none⟩) zs.length zs.length) (Ints zs) :=
  Sl.of_blk h (by simp [Ints]) (Nat.le_refl _) hm fun k x j u hk hj => by
    simp only [Ints, List.getElem?_map, Option.map_eq_some_iff] at hk
    obtain ⟨z, hz, rfl⟩ := hk
    match j, hj with
    | 0, hj => simp at hj; subst hj; simp [hz]

def cmpVer (a b : Ver) : Int := orI [cmpI a.by_ b.by_, cmpI a.n b.n]
def cmpStamp (a b : Stamp) : Int := orI [cmpI a.time b.time, cmpI a.v.by_ b.v.by_, cmpI a.v.n b.v.n]
/-- one version ahead of another one -/
def Ver.lt (a b : Ver) : Bool := decide (a.by_ < b.by_ ∨ a.by_ = b.by_ ∧ a.n < b.n)
theorem cmpVer_neg (a b : Ver) : decide (cmpVer a b < 0) = a.lt b := by
  obtain ⟨a1, a2⟩ := a
  obtain ⟨b1, b2⟩ := b
  simp only [cmpVer, orI, cmpI, Ver.lt, decide_eq_decide]
  by_cases h1 : a1 < b1 <;> by_cases h2 : b1 < a1 <;> by_cases h3 : a2 < b2 <;> by_cases h4 : b2 < a2 <;> simp [h1, h2, h3, h4] <;> omega
theorem Ver.strict : Strict Ver.lt := ⟨fun a => by simp [Ver.lt], fun a b c h1 h2 => by simp only [Ver.lt, decide_eq_true_eq] at *; omega, fun a b h hne => by
  simp only [Ver.lt, decide_eq_true_eq, decide_eq_false_iff_not] at *
  have : ¬ (a.by_ = b.by_ ∧ a.n = b.n) := fun h => hne (by cases a; cases b; simp_all)
  omega⟩
/-- '==' of structs of two, three ints. -/
def eq2 (a1 a2 b1 b2 : Int) : Bool := decide (a1 = b1 ∧ a2 = b2)
def eq3 (a1 a2 a3 b1 b2 b3 : Int) : Bool := decide (a1 = b1 ∧ a2 = b2 ∧ a3 = b3)
theorem ver_ext {a b : Ver} (h1 : a.by_ = b.by_) (h2 : a.n = b.n) : a = b := by cases a; cases b; simp_all
theorem eq2_iff (a b : Ver) : eq2 a.by_ a.n b.by_ b.n = true ↔ a = b := by
  simp only [eq2, decide_eq_true_eq]
  exact ⟨fun ⟨h1, h2⟩ => ver_ext h1 h2, fun h => by subst h; simp⟩
theorem eq2_self (a b : Int) : eq2 a b a b = true := by simp [eq2]
end Go.Proofs.Ytjbpdepeimgocaa
