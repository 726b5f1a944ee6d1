/-
  lighteragelaw42.IndexNone: its walk.
-/
import Derived.Test.YtfoafookodldfaaIdxN
namespace Go.Proofs.Ytfoafookodldfaa
set_option linter.unusedSimpArgs false
set_option linter.unusedVariables false
open Go.RowKit

set_option maxRecDepth 100000 in
set_option maxHeartbeats 4000000 in
theorem none_c (w : World) (s : ByteArray) (n : Int) : Calls Try.prog 6 #[.string s, .int .i64 n] w (Ret (.bool true) w) := by
  go_enter Try.func6, Try.ntmps6
  go_wp2_with (first
    | (go_at_call 20; refine (get_nil _ _).mono ?_; rintro e w1 ⟨rfl, hx1⟩)
    | (go_at_call 15; refine (at_nil _ _).mono ?_; rintro e w2 ⟨rfl, hx2⟩)
    | (go_at_call 23; refine (next_nil _ _).mono ?_; rintro e w3 ⟨rfl, hx3⟩)
    | (go_at_call 12; refine (awake_c _).mono ?_; rintro e w4 ⟨rfl, hx4⟩)
    | (go_at_call 13; refine (put_nil _ _ _).mono ?_; rintro e w5 ⟨rfl, hx5⟩)
    | (go_at_call 18; refine (drop_nil _ _).mono ?_; rintro e w6 ⟨rfl, hx6⟩)
    | (go_at_call 21; refine (rank_nil _ _).mono ?_; rintro e w7 ⟨rfl, hx7⟩)
    | (go_at_call 14; refine (lenR_nil _).mono ?_; rintro e w8 ⟨rfl, hx8⟩)
    | (go_at_call 25; refine (under_nil _ _).mono ?_; rintro e w9 ⟨rfl, hx9⟩)
    | (go_at_call 26; refine (begins_nil _ _).mono ?_; rintro e w10 ⟨rfl, hx10⟩))
  go_ret
  have he : ((⟨#[]⟩ : ByteArray) ++ (⟨#[]⟩ : ByteArray)).toList.isEmpty = true := by rw [Lib.toList_data]; rfl
  exact ⟨congrArg (fun b => Ending.returned (.bool b)) he, ((((((((hx1.trans hx2).trans hx3).trans hx4).trans hx5).trans hx6).trans hx7).trans hx8).trans hx9).trans hx10⟩
end Go.Proofs.Ytfoafookodldfaa
