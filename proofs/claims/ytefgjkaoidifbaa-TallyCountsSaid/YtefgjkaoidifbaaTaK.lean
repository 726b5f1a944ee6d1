/-
  lighteragelaw38.awake.
-/
import Derived.Test.YtefgjkaoidifbaaTaH
import Derived.Test.YtefgjkaoidifbaaTaJ
namespace Go.Proofs.Ytefgjkaoidifbaa
set_option linter.unusedSimpArgs false
set_option linter.unusedVariables false
open Go.RowKit Go.Maps

def litA : ActI := ⟨4, 0, 0, ⟨#[]⟩, ⟨#[]⟩, 0, 0, none, 0, 0⟩
def litR (e : Int) : RepI := ⟨e, ⟨#[]⟩, 0, 0, 0, 0, 0, 0, none, 0, 0⟩
theorem gat_lit : gat (cnts [litA, litA] [litR 0, litR 8]) = [⟨4, 2, 1, 0⟩] := by
  have e : cnts [litA, litA] [litR 0, litR 8] = [⟨4, 1, 0, 0⟩, ⟨4, 1, 1, 0⟩] := by decide
  rw [e]
  refine (gat_is ⟨List.pairwise_singleton _ _, fun c => ?_⟩).symm
  constructor
  · intro h
    rw [List.mem_singleton] at h
    subst h
    exact ⟨⟨_, List.mem_cons_self, rfl⟩, by decide⟩
  · rintro ⟨⟨x, hx, hk⟩, hc⟩
    have h4 : c.kind = 4 := by
      rw [← hk]
      rcases List.mem_cons.1 hx with rfl | hx
      · rfl
      · rw [List.mem_singleton.1 hx]
    rw [h4] at hc
    rw [List.mem_singleton, hc]
    decide
def litM : List MailI := [⟨0, 3, ⟨#[97, 98]⟩⟩, ⟨0, 2, ⟨#[97]⟩⟩]
theorem most_lit {p : Int × Int} (h : Most litM p) : p = (3, 2) := by
  refine h.eq (.inr ⟨⟨_, List.mem_cons_self, rfl⟩, rfl, fun t ht => ?_⟩)
  obtain ⟨x, hx, rfl⟩ := ht
  rcases List.mem_cons.1 hx with rfl | hx
  · exact .inr ⟨rfl, Int.le_refl _⟩
  · rw [List.mem_singleton.1 hx]
    exact .inl (by decide)
theorem lit_any {α : Type} {code : α → List Value} {sz : Nat} (hc : Coded code sz) {w : World} {n : Nat} (e : TypeId) (l : List α) (cs : Array Value) (hcs : cs = ((l.map code).flatten).toArray) (hn : l.length = n) (hm : n ≤ maxLen) : Sl (w.alloc (.cells cs e)) sz (.slice (some ⟨w.heap.size, 0, none⟩) n n) (l.map code) :=
  Sl.of_flat (Blk.new w e cs) ⟨[], by rw [hcs]; simp⟩ (hc.sizes l) (by simpa using hn) (Nat.le_refl _) hm

set_option maxRecDepth 100000 in
set_option maxHeartbeats 2000000 in
theorem awake38_c (w : World) : Calls Try.prog 21 #[] w (Ret (.bool true) w) := by
  have hA : Sl ((w.alloc (.cells #[.int .i64 4, .int .i64 0, .int .i64 0, .string ⟨#[]⟩, .string ⟨#[]⟩, .int .i64 0, .int .i64 0, .slice none 0 0, .int .i64 4, .int .i64 0, .int .i64 0, .string ⟨#[]⟩, .string ⟨#[]⟩, .int .i64 0, .int .i64 0, .slice none 0 0] 72))) 8 (.slice (some ⟨w.heap.size, 0, none⟩) 2 2) (List.map ActI.cells [litA, litA]) := lit_any act_coded _ _ _ rfl rfl (by unfold maxLen; simp)
  have hR : Sl (((w.alloc (.cells #[.int .i64 4, .int .i64 0, .int .i64 0, .string ⟨#[]⟩, .string ⟨#[]⟩, .int .i64 0, .int .i64 0, .slice none 0 0, .int .i64 4, .int .i64 0, .int .i64 0, .string ⟨#[]⟩, .string ⟨#[]⟩, .int .i64 0, .int .i64 0, .slice none 0 0] 72))).alloc (.cells #[.int .i64 0, .string ⟨#[]⟩, .int .i64 0, .int .i64 0, .int .i64 0, .int .i64 0, .int .i64 0, .int .i64 0, .slice none 0 0, .int .i64 8, .string ⟨#[]⟩, .int .i64 0, .int .i64 0, .int .i64 0, .int .i64 0, .int .i64 0, .int .i64 0, .slice none 0 0] 77)) 9 (.slice (some ⟨w.heap.size + 1, 0, none⟩) 2 2) (List.map RepI.cells [litR 0, litR 8]) := by
    have := lit_any (w := (w.alloc (.cells #[.int .i64 4, .int .i64 0, .int .i64 0, .string ⟨#[]⟩, .string ⟨#[]⟩, .int .i64 0, .int .i64 0, .slice none 0 0, .int .i64 4, .int .i64 0, .int .i64 0, .string ⟨#[]⟩, .string ⟨#[]⟩, .int .i64 0, .int .i64 0, .slice none 0 0] 72))) rep_coded 77 [litR 0, litR 8] #[.int .i64 0, .string ⟨#[]⟩, .int .i64 0, .int .i64 0, .int .i64 0, .int .i64 0, .int .i64 0, .int .i64 0, .slice none 0 0, .int .i64 8, .string ⟨#[]⟩, .int .i64 0, .int .i64 0, .int .i64 0, .int .i64 0, .int .i64 0, .int .i64 0, .slice none 0 0] rfl (n := 2) rfl (by unfold maxLen; omega)
    rwa [show ((w.alloc (.cells #[.int .i64 4, .int .i64 0, .int .i64 0, .string ⟨#[]⟩, .string ⟨#[]⟩, .int .i64 0, .int .i64 0, .slice none 0 0, .int .i64 4, .int .i64 0, .int .i64 0, .string ⟨#[]⟩, .string ⟨#[]⟩, .int .i64 0, .int .i64 0, .slice none 0 0] 72))).heap.size = w.heap.size + 1 by simp] at this
  have HOf := hid (tof_c _ _ _ _ _ (hA.ext (Ext.alloc _ _)) hR (by decide) (fun a ha => by simp at ha; subst ha; exact wf_small ⟨by decide, by decide⟩))
  rw [gat_lit] at HOf
  have hmK : ∀ m ∈ litM, okK m.to_ := fun m hm => by
    rcases List.mem_cons.1 hm with rfl | hm
    · exact wf_small ⟨by decide, by decide⟩
    · rw [List.mem_singleton.1 hm]; exact wf_small ⟨by decide, by decide⟩
  have HBu := fun (W : World) => hid (busiest_c (W.alloc (.cells #[.int .i64 0, .int .i64 3, .string ⟨#[97, 98]⟩, .int .i64 0, .int .i64 2, .string ⟨#[97]⟩] 36)) _ litM (lit_any (n := 2) mail_coded _ _ _ rfl rfl (by unfold maxLen; omega)) ⟨by decide, by decide⟩ hmK)
  have HSame := fun (W : World) (v : Value) (hv : Sl W 4 v (List.map Cnt.cells [⟨4, 2, 1, 0⟩])) => hid (csame_c (W.alloc (.cells #[.int .i64 4, .int .i64 2, .int .i64 1, .int .i64 0] 58)) v _ [⟨4, 2, 1, 0⟩] (hv.ext (Ext.alloc _ _)) (lit_any cnt_coded _ _ _ rfl rfl (by unfold maxLen; simp)))
  have HBy := fun (W : World) => hid (bytes_c (W.alloc (.cells #[.int .i64 0, .int .i64 0, .string ⟨#[97, 98, 99]⟩] 36)) _ [⟨0, 0, ⟨#[97, 98, 99]⟩⟩] (lit_any mail_coded _ _ _ rfl rfl (by unfold maxLen; simp)) ⟨by decide, by decide⟩)
  rw [show sumAll [⟨0, 0, ⟨#[97, 98, 99]⟩⟩] = 3 from rfl] at HBy
  clear hA hR
  go_enter Try.func21, Try.ntmps21
  go_wp2_with (first
    | (go_at_call 42; refine (HOf.out).mono ?_; rintro e w1 ⟨v1, rfl, hv1, hx1⟩; have HV := hid hv1.1; have HX1 := hid hx1; clear hv1 hx1)
    | (go_at_call 22; refine (HBu _).out.mono ?_; rintro e w2 ⟨p, rfl, hp, hx2⟩; obtain rfl := most_lit hp; have HX2 := hid hx2; clear hx2 hp)
    | (go_at_call 44; refine (HSame _ _ (HV.out.ext ((Ext.alloc _ _).trans HX2.out))).out.mono ?_; rintro e w3 ⟨rfl, hx3⟩; have HX3 := hid hx3; clear hx3)
    | (go_at_call 23; refine (HBy _).out.mono ?_; rintro e w4 ⟨rfl, hx4⟩; have HX4 := hid hx4; clear hx4))
  go_ret
  exact ⟨rfl, (((((Ext.alloc _ _).alloc' _).trans HX1.out).trans ((Ext.alloc _ _).trans HX2.out)).trans ((Ext.alloc _ _).trans HX3.out)).trans ((Ext.alloc _ _).trans HX4.out)⟩
end Go.Proofs.Ytefgjkaoidifbaa
