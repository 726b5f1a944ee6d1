/-
  vers.Sort, vers.Before, and the document's Put, Same: contracts.
-/
import Derived.Test.YtjbpdepeimgocaaCpt
import Derived.Test.YtjbpdepeimgocaaSoG
import Derived.Test.YtjbpdepeimgocaaSoL
import Derived.Test.YtjbpdepeimgocaaVersG0
namespace Go.Proofs.Ytjbpdepeimgocaa
set_option linter.unusedSimpArgs false
set_option linter.unusedVariables false
open Go.RowKit Go.Sort

theorem ltOf_ver : ltOf cmpVer = Ver.lt := by funext a b; exact cmpVer_neg a b
theorem swo_ver : SWO (ltOf cmpVer) := by
  rw [ltOf_ver]
  refine ⟨Ver.strict.irrefl, Ver.strict.trans, fun a b c h1 h2 => ?_⟩
  simp only [Ver.lt, decide_eq_false_iff_not] at *
  omega
theorem order_e (a b : Ver) (W : World) : Calls Try.prog 32 #[a.val, b.val] W (Ret (.int .i64 (cmpVer a b)) W) := (D.order_c a b W).mono fun _ _ ⟨he, hx⟩ => ⟨he, hx.toBelow⟩
theorem sortVer_c {w : World} {B : Nat} {v : Value} {l : List Ver} (h : w.ownsRow B 26 2 v l.length (l.map Ver.cells).flatten) (hl : l.length ≤ 1000000) :
    Calls Try.prog 31 #[v, .func (.func 32) #[] #[]] w fun en w' => en = .returned (.tuple #[]) ∧ Keep (fun q => v.ownBlock = some q) w w' ∧ ∃ l' : List Ver, l'.Perm l ∧ l'.Pairwise (fun x y => ltOf cmpVer y x = false) ∧ w'.ownsRow B 26 2 v l'.length (l'.map Ver.cells).flatten :=
  sort_c (P := Try.prog) Try.sortVer Try.isAgg26 Try.sizeOf26 ver_coded.len ver_coded.one cmpVer swo_ver 32 (fun _ _ => run_callFunc Try.func32 (by kernel_rfl) (by kernel_rfl)) (fun W x y => D.order_g x y W) h hl

set_option maxHeartbeats 1000000 in
theorem vsort_c (w : World) (v : Value) (l : List Ver) (h : Sl w 2 v (l.map Ver.cells)) (hl : l.length ≤ 1000000) : Calls Try.prog 24 #[v] w (RetQ (RowAt Ver.cells 2 (setL Ver.lt l)) w) := by
  obtain ⟨v1, w1, hrun, hown, hkeep, _, hnil⟩ := app_row (P := Try.prog) (ty := 50) ver_elem (ownsRow_nil w w.heap.size 26 2) (Nat.le_refl _) (src_of_sl Try.underlying50 ver_coded h (Ext.refl w)) (by unfold maxLen; omega) (by omega)
  rw [List.nil_append, Nat.zero_add] at hown
  have HE : Hid (Ext w w1) := hkeep.toExt (Ext.refl w) (fun q hq => by cases hq)
  have HO := hid hown
  have HB : Hid (∀ q, v1.ownBlock = some q → w.heap.size ≤ q) := fun q hq => (row_block hown q hq).1
  have HN : Hid (l.length = 0 → v1 = .slice none 0 0) := fun h0 => hnil (by omega) rfl
  have HL := hid hl
  clear h hown hkeep hnil hl
  go_enter Try.func24, Try.ntmps24
  go_wp2_with (first
    | (at_builtin; refine wpList_app rfl (.const (.slice none 0 0)) (.tmp 4) _ _ rfl rfl rfl hrun ?_)
    | (go_at_call 31; refine (sortVer_c HO.out HL.out).mono ?_; rintro e w2 ⟨rfl, k2, l', hp, hs, ho2⟩; have K2 := hid k2; have P2 := hid hp; have S2 := hid hs; have O2 := hid ho2; clear k2 hp hs ho2)
    | (go_at_call 33; refine (compact_c _ _ _ _ (by rw [P2.out.length_eq]; exact HL.out) O2.out).mono ?_; rintro e w3 ⟨v3, rfl, k3, ho3, _, hn3⟩; have K3 := hid k3; have O3 := hid ho3; have N3 := hid hn3; clear k3 ho3 hn3))
  go_ret
  have e : Lib.compact l' = setL Ver.lt l := compact_sorted Ver.strict P2.out (by rw [← ltOf_ver]; exact S2.out)
  rw [e] at O3
  refine ⟨_, rfl, RowAt.of_row ver_coded O3.out fun h0 => N3.out (HN.out ?_), (K3.out.toExt (K2.out.toExt HE.out HB.out) HB.out)⟩
  have : setL Ver.lt l = [] := List.eq_nil_of_length_eq_zero h0
  rcases l with _ | ⟨x, l⟩
  · rfl
  · have := (mem_setL Ver.strict (x :: l) x).2 (by simp)
    simp_all

end Go.Proofs.Ytjbpdepeimgocaa
