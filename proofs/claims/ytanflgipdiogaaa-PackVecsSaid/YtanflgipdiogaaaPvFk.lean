/-
  The law PackVecs answers true, whatever comes in.
-/
import Derived.Test.YtanflgipdiogaaaPvEk
import Derived.Test.YtanflgipdiogaaaIsO
import Derived.ChangeMaps5
import Derived.OpenShut
namespace Go.Proofs.Ytanflgipdiogaaa
set_option linter.unusedSimpArgs false
set_option linter.unusedVariables false
open Go.RowKit Go.ChangeShapes Go.WideShapes Go.ChangeAt Go.Deep

theorem okWide_arr {P : Program} {w : World} {r : Reach} {b0 : Nat} {t e : TypeId} {n : Nat} {v : Value} (ht : P.underlying t = some (.array n e)) (h : Value.okWide P w r b0 t v) : ∃ cs, v = .agg cs := by
  simp only [Value.okWide, ht] at h
  obtain ⟨cs, h1, _⟩ := h
  exact ⟨cs, h1⟩
theorem open_arr {P : Program} {w : World} {H : Type} {enc : TypeId × Value → H} {t e : TypeId} {n : Nat} {v : Value} {d : DataW H} {p : List MemPlace} {r : Reach} {b0 : Nat} {α : Type} {code : α → List Value} {ok : α → Prop} (ht : P.underlying t = some (.array n e)) (ho : Opens P w t code ok)
    (hv : Value.okWide P w r b0 t v) (h : DataW.Trod enc P w 0 (fun _ => true) true t v d p) : ∃ a, v = .agg (code a).toArray ∧ ok a := by
  obtain ⟨cs, rfl⟩ := okWide_arr ht hv
  obtain ⟨fuel, hf⟩ := h
  obtain ⟨a, h1, h2⟩ := ho H enc fuel _ _ hf
  refine ⟨a, ?_, h2⟩
  have : cs.toList = code a := h1
  rw [← this]
theorem ints_of (ok : Int → Prop) : ∀ cs : List Value, (∀ i, i < cs.length → ∃ z, cs[i]? = some (.int .i64 z) ∧ ok z) → ∃ v : List Int, cs = v.map (Value.int .i64) ∧ v.length = cs.length ∧ ∀ z ∈ v, ok z
  | [], _ => ⟨[], rfl, rfl, fun z hz => by cases hz⟩
  | c :: cs, h => by
    obtain ⟨z, h1, h2⟩ := h 0 (by simp)
    obtain ⟨v, h3, h4, h5⟩ := ints_of ok cs (fun i hi => by
      have := h (i + 1) (by simp; omega)
      simpa using this)
    simp at h1
    refine ⟨z :: v, by rw [h1, h3]; rfl, by simp [h4], fun y hy => ?_⟩
    rcases List.mem_cons.1 hy with rfl | hy
    · exact h2
    · exact h5 y hy
theorem cellsVecI : Try.prog.cellsOf 23 = 65 := by kernel_rfl
set_option maxRecDepth 100000 in
theorem opens_vecI (w : World) : Opens Try.prog w 23 (fun v : List Int => v.map (Value.int .i64)) (fun v => v.length = 65 ∧ in64L v) := by
  intro H enc fuel cs x h
  obtain ⟨xs, n, _, _, hlen, hxl, hf⟩ := DataW.trod_array Try.underlying23 h
  rw [cellsVecI] at hlen
  obtain ⟨v, h1, h2, h3⟩ := ints_of okI cs (fun i hi => by
    have hi65 : i < 65 := by omega
    have hx := hf i hi65
    rw [cellsInt, Nat.mul_one] at hx
    have hlt : i < xs.length := by omega
    rw [List.getElem?_eq_getElem hlt] at hx
    obtain ⟨z, hz, oz⟩ := opens_i64 w H enc _ _ _ hx
    refine ⟨z, ?_, oz⟩
    have h0 : ((cs.drop i).take 1)[0]? = some (.int .i64 z) := by rw [hz]; rfl
    rw [List.getElem?_take, if_pos (by omega), List.getElem?_drop, Nat.add_zero] at h0
    exact h0)
  exact ⟨v, h1, by omega, fun z hz => (h3 z hz).bounds⟩
theorem pw_open (w : World) (v : List Int) (hv : v.length = 65 ∧ in64L v) (u : Value) (l : List Ver) (h : Sl w 2 u (l.map Ver.cells)) (hl : ∀ x ∈ l, okI x.by_ ∧ okI x.n) (s : ByteArray) : Calls Try.prog 3 #[.agg (v.map (Value.int .i64)).toArray, u, .string s] w (Ret (.bool true) w) := by
  by_cases hlen : 100 < l.length
  · exact pw_long w v u l s hv.1 h hlen
  by_cases hbig : 2000 < s.size
  · exact pw_far w v u l s hv.1 h hlen hbig
  exact pw_main w v u l s hv.1 h hlen hbig hv.2 (fun x hx => ⟨(hl x hx).1.bounds, (hl x hx).2.bounds⟩) _ _ rfl rfl
set_option maxRecDepth 100000 in
theorem packVecs_lifted (os : Os) (started : os.Started) (H : Type) (enc : TypeId × Value → H) :
    ReturnsInHanded {} Try.checked os 3 .any (Rows.packVecsSpec.pre6 enc Try.prog Try.f3 Rows.packVecsRow.domain false) (Rows.packVecsSpec.post enc Try.prog Try.f3 false true false false) := by
  refine returnsInHanded_of_change (C := Try.checked) own started (by kernel_rfl) Try.func3
    (ChangeSpec.witness6 (enc := enc) (C := Try.checked) false ⟨#[], #[.agg (Array.replicate 65 (.int .i64 0)), .slice none 0 0, .string ⟨#[]⟩], []⟩ 8 (by kernel_rfl) (by kernel_rfl) (by kernel_rfl) (by kernel_rfl)) ?_
  intro W base args ds gs before hval0 hW hcnd _
  have hval : ∀ (j : Nat) t v, Try.f3.params[j]? = some t → args[j]? = some v → Value.okWide Try.prog W .any base t v := hval0
  have hW' := hW
  obtain ⟨p, q, hA0, hV, _, _, _⟩ := hW
  have hA : DataW.TrodAll enc Try.prog W 0 (fun _ => true) true Try.f3.params.toList args.toList ds p := hA0
  obtain ⟨rfl, rfl⟩ := trodVars_none hV
  rw [Try.params3] at hA hval
  obtain ⟨v0, v1, v2, d0, d1, d2, p0, p1, p2, hargs, rfl, _, h0, h1, h2⟩ := trodAll_three hA
  obtain rfl : args = #[v0, v1, v2] := by cases args; simp_all
  obtain ⟨v, rfl, hv⟩ := open_arr Try.underlying23 (opens_vecI W) (hval 0 23 v0 rfl rfl) h0
  obtain ⟨l, hs, hl⟩ := open_sl Try.underlying24 (opens_ver W) cellsVer (by decide) (fun _ => rfl) (hval 1 24 v1 rfl rfl) h1
  obtain ⟨s, rfl, _⟩ := Go.ChangeMaps.open_string Try.underlying9 (hval 2 9 v2 rfl rfl) h2
  refine (pw_open W v hv v1 l hs hl s).mono fun e W' ⟨he, hx⟩ => ?_
  exact ⟨_, he, law_post rfl rfl rfl underlyingBool laidOut (by kernel_rfl) hW' hx⟩
theorem packVecs_holds : Rows.PackVecsSaid :=
  OpenClaim.holds_of_wide 3 Try.f3 rfl rfl rfl rfl rfl rfl rfl ⟨rfl, rfl, rfl, rfl, rfl⟩ rfl rfl rfl rfl rfl (by kernel_rfl) Try.func3 (by kernel_rfl)
    (of_decide_eq_true (by kernel_rfl)) (by unfold Func.isWrapper; first | (rw [if_pos (by decide +kernel)]; kernel_rfl) | (rw [if_neg (by decide +kernel)]; exact ⟨rfl, rfl⟩))
    (fun os started H enc _ => packVecs_lifted os started H enc)
#print axioms packVecs_holds
end Go.Proofs.Ytanflgipdiogaaa
