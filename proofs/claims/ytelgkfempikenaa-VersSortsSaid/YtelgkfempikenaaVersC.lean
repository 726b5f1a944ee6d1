/-
  vers.Newest, vers.Next: loops.
-/
import Derived.Test.YtelgkfempikenaaVersB
import Derived.Test.YtelgkfempikenaaVerR
namespace Go.Proofs.Ytelgkfempikenaa
set_option linter.unusedSimpArgs false
set_option linter.unusedVariables false
open Go.RowKit

theorem run_eq_stamp (a1 a2 a3 b1 b2 b3 : Int) (w : World) : (Op.equalIn 10000 26 (.agg #[.int .i64 a1, .int .i64 a2, .int .i64 a3]) (.agg #[.int .i64 b1, .int .i64 b2, .int .i64 b3])).run Try.prog w = .ok (eq3 a1 a2 a3 b1 b2 b3) w := by
  by_cases h1 : a1 = b1 <;> by_cases h2 : a2 = b2 <;> by_cases h3 : a3 = b3 <;> simp [go_sem, eq3, h1, h2, h3]
attribute [go_sem 2000] run_eq_stamp

def Stamp.arr (s : Stamp) : Array Value := #[.int .i64 s.v.by_, .int .i64 s.v.n, .int .i64 s.time]
/-- what 'take' leaves in 'out' -/
def takeNew (f : Bool) (o s : Stamp) : Stamp := if f = false ∨ cmpStamp o s < 0 then s else o

def TookPost (w : World) (bf bo : Nat) (x : Stamp) (e : Ending) (w' : World) : Prop :=
  e = .returned (.tuple #[]) ∧ Keep (fun k => k = bf ∨ k = bo) w w' ∧ Blk w' bf 4 #[.bool true] ∧ Blk w' bo 26 x.arr

theorem cmpStamp_self (a : Stamp) : cmpStamp a a = 0 := by simp [cmpStamp, orI, cmpI]

set_option maxHeartbeats 1000000 in
theorem take_c (s o : Stamp) (f : Bool) (bf bo : Nat) (w : World) (hf : Blk w bf 4 #[.bool f]) (ho : Blk w bo 26 o.arr) (hne : bf ≠ bo) :
    Calls Try.prog 21 #[s.val, .pointer (some ⟨bf, 0, none⟩), .pointer (some ⟨bo, 0, none⟩)] w (TookPost w bf bo (takeNew f o s)) := by
  unfold Stamp.val
  have hlf := hf.lt
  have hlo := ho.lt
  have cf := hf.cell (i := 0) rfl
  have c0 := ho.cell (i := 0) (v := .int .i64 o.v.by_) rfl
  have c1 := ho.cell (i := 1) (v := .int .i64 o.v.n) rfl
  have c2 := ho.cell (i := 2) (v := .int .i64 o.time) rfl
  have ff := hf.frozen 0
  have f0 := ho.frozen 0
  have f1 := ho.frozen 1
  have f2 := ho.frozen 2
  have Hc : ∀ W, Hid (Calls Try.prog 9 #[o.val, s.val] W (Ret (.int .i64 (cmpStamp o s)) W)) := fun W => hid (vcompare_c o s W)
  unfold Stamp.val at Hc
  cases f
  · go_enter Try.func21, Try.ntmps21
    go_wp2_with fail
    go_end0
    have h1 := ((((((hf.far (p := ⟨bo, 0, none⟩) hne (.int .i64 s.v.by_)).far (p := ⟨bo, 1, none⟩) hne (.int .i64 s.v.n)).far (p := ⟨bo, 2, none⟩) hne (.int .i64 s.time)).set 0 (.bool true)).alloc (.cells s.arr 26)))
    have h2 := (((((ho.set 0 (.int .i64 s.v.by_)).set 1 (.int .i64 s.v.n)).set 2 (.int .i64 s.time)).far (p := ⟨bf, 0, none⟩) (Ne.symm hne) (.bool true)).alloc (.cells s.arr 26))
    exact ⟨rfl, (((((Keep.refl _ w).setCell (.inl (.inr rfl)) _).setCell (.inl (.inr rfl)) _).setCell (.inl (.inr rfl)) _).setCell (.inl (.inl rfl)) _).alloc _, h1, h2⟩
  · have e1 : takeNew true o s = if cmpStamp o s < 0 then s else o := by simp [takeNew]
    rw [e1]
    by_cases hlt : cmpStamp o s < 0
    · have hns : eq3 s.v.by_ s.v.n s.time o.v.by_ o.v.n o.time = false := by
        simp only [eq3, decide_eq_false_iff_not]
        rintro ⟨e1, e2, e3⟩
        simp [cmpStamp, orI, cmpI, e1, e2, e3] at hlt
      rw [if_pos hlt]
      have hlf1 : bf < w.heap.size + 1 := by omega
      have hlo1 : bo < w.heap.size + 1 := by omega
      go_enter Try.func21, Try.ntmps21
      go_wp2_with (go_at_call 9; refine (Hc _).out.mono ?_; rintro e w' ⟨rfl, hx⟩; have hr := hx.rule; have hrf := hx.ruleF)
      go_end0
      have hf' := (hf.alloc (.cells s.arr 26)).ext hx
      have ho' := (ho.alloc (.cells s.arr 26)).ext hx
      have h1 := (((hf'.far (p := ⟨bo, 0, none⟩) hne (.int .i64 s.v.by_)).far (p := ⟨bo, 1, none⟩) hne (.int .i64 s.v.n)).far (p := ⟨bo, 2, none⟩) hne (.int .i64 s.time)).set 0 (.bool true)
      have h2 := (((ho'.set 0 (.int .i64 s.v.by_)).set 1 (.int .i64 s.v.n)).set 2 (.int .i64 s.time)).far (p := ⟨bf, 0, none⟩) (Ne.symm hne) (.bool true)
      exact ⟨rfl, ((((((Keep.refl _ w).alloc _).ext hx).setCell (.inl (.inr rfl)) _).setCell (.inl (.inr rfl)) _).setCell (.inl (.inr rfl)) _).setCell (.inl (.inl rfl)) _, h1, h2⟩
    · rw [if_neg hlt]
      cases he : eq3 s.v.by_ s.v.n s.time o.v.by_ o.v.n o.time
      · go_enter Try.func21, Try.ntmps21
        go_wp2_with (go_at_call 9; refine (Hc _).out.mono ?_; rintro e w' ⟨rfl, hx⟩; have hr := hx.rule; have hrf := hx.ruleF)
        go_end0
        exact ⟨rfl, ((Keep.refl _ w).alloc _).ext hx, (hf.alloc _).ext hx, (ho.alloc _).ext hx⟩
      · go_enter Try.func21, Try.ntmps21
        go_wp2_with fail
        go_end0
        exact ⟨rfl, (Keep.refl _ w).alloc _, hf.alloc _, ho.alloc _⟩
end Go.Proofs.Ytelgkfempikenaa
