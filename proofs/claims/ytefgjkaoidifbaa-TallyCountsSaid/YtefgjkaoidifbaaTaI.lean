/-
  Mails: to whom most goes; tally.Bytes.
-/
import Derived.Test.YtefgjkaoidifbaaTaM
namespace Go.Proofs.Ytefgjkaoidifbaa
set_option linter.unusedSimpArgs false
set_option linter.unusedVariables false
open Go.RowKit Go.Maps

structure MailI where
  from_ : Int
  to_ : Int
  s : ByteArray
def MailI.cells (m : MailI) : List Value := [.int .i64 m.from_, .int .i64 m.to_, .string m.s]
theorem mail_coded : Coded MailI.cells 3 := ⟨fun _ => rfl, fun a u hu => by simp [MailI.cells] at hu; rcases hu with rfl | rfl | rfl <;> rfl⟩
def sumTo (l : List MailI) (t : Int) : Int := l.foldl (fun acc m => if m.to_ = t then acc + m.s.size else acc) 0
def sumAll (l : List MailI) : Int := l.foldl (fun acc m => acc + m.s.size) 0
def presT (l : List MailI) (t : Int) : Prop := ∃ m ∈ l, m.to_ = t
theorem sumTo_snoc (l : List MailI) (x : MailI) (t : Int) : sumTo (l ++ [x]) t = if x.to_ = t then sumTo l t + x.s.size else sumTo l t := by simp [sumTo, List.foldl_append]
theorem sumAll_snoc (l : List MailI) (x : MailI) : sumAll (l ++ [x]) = sumAll l + x.s.size := by simp [sumAll, List.foldl_append]
theorem presT_snoc (l : List MailI) (x : MailI) (t : Int) : presT (l ++ [x]) t ↔ presT l t ∨ x.to_ = t := by
  unfold presT
  constructor
  · rintro ⟨y, hy, e⟩
    rcases List.mem_append.1 hy with hy | hy
    · exact .inl ⟨y, hy, e⟩
    · rw [List.mem_singleton.1 hy] at e; exact .inr e
  · rintro (⟨y, hy, e⟩ | e)
    · exact ⟨y, List.mem_append_left _ hy, e⟩
    · exact ⟨x, by simp, e⟩
def Small (l : List MailI) : Prop := l.length ≤ 100 ∧ ∀ m ∈ l, m.s.size ≤ 1000
theorem Small.take {l : List MailI} (h : Small l) (k : Nat) : Small (l.take k) := ⟨by rw [List.length_take]; have := h.1; omega, fun m hm => h.2 m (List.mem_of_mem_take hm)⟩
theorem fold_bd (t : Int) : ∀ (l : List MailI) (c : Int), (∀ m ∈ l, m.s.size ≤ 1000) → 0 ≤ c → 0 ≤ l.foldl (fun acc m => if m.to_ = t then acc + (m.s.size : Int) else acc) c ∧ l.foldl (fun acc m => if m.to_ = t then acc + (m.s.size : Int) else acc) c ≤ c + 1000 * l.length
  | [], c, _, h => by simpa using h
  | x :: l, c, hm, h => by
    have hx := hm x (by simp)
    rw [List.foldl_cons]
    simp only [List.length_cons]
    push_cast
    by_cases e : x.to_ = t
    · rw [if_pos e]
      have := fold_bd t l (c + x.s.size) (fun m h => hm m (by simp [h])) (by omega)
      omega
    · rw [if_neg e]
      have := fold_bd t l c (fun m h => hm m (by simp [h])) h
      omega
theorem sumTo_bd {l : List MailI} (h : Small l) (t : Int) : 0 ≤ sumTo l t ∧ sumTo l t ≤ 100000 := by
  have := fold_bd t l 0 h.2 (by omega)
  have := h.1
  unfold sumTo
  omega
theorem foldAll_bd : ∀ (l : List MailI) (c : Int), (∀ m ∈ l, m.s.size ≤ 1000) → 0 ≤ c → 0 ≤ l.foldl (fun acc m => acc + (m.s.size : Int)) c ∧ l.foldl (fun acc m => acc + (m.s.size : Int)) c ≤ c + 1000 * l.length
  | [], c, _, h => by simpa using h
  | x :: l, c, hm, h => by
    have hx := hm x (by simp)
    rw [List.foldl_cons]
    have := foldAll_bd l (c + x.s.size) (fun m h => hm m (by simp [h])) (by omega)
    simp only [List.length_cons]
    push_cast
    omega
theorem sumAll_bd {l : List MailI} (h : Small l) : 0 ≤ sumAll l ∧ sumAll l ≤ 100000 := by
  have := foldAll_bd l 0 h.2 (by omega)
  have := h.1
  unfold sumAll
  omega
theorem sumTo_absent {l : List MailI} {t : Int} (h : ¬ presT l t) : sumTo l t = 0 := by
  unfold sumTo
  generalize hc : (0 : Int) = c
  have : ∀ (l : List MailI), (∀ m ∈ l, ¬ m.to_ = t) → l.foldl (fun acc m => if m.to_ = t then acc + (m.s.size : Int) else acc) c = c := by
    intro l
    induction l with
    | nil => intro _; rfl
    | cons x l ih =>
      intro hm
      rw [List.foldl_cons, if_neg (hm x (by simp))]
      exact ih fun m h => hm m (by simp [h])
  exact this l fun m hm e => h ⟨m, hm, e⟩

/-- To whom most goes, and how much. -/
def Most (l : List MailI) (p : Int × Int) : Prop :=
  (l = [] ∧ p = (0, 0)) ∨ (presT l p.1 ∧ p.2 = sumTo l p.1 ∧ ∀ t, presT l t → sumTo l t < p.2 ∨ sumTo l t = p.2 ∧ p.1 ≤ t)
theorem Most.eq {l : List MailI} {p q : Int × Int} (h : Most l p) (k : Most l q) : p = q := by
  rcases h with ⟨rfl, rfl⟩ | ⟨h1, h2, h3⟩
  · rcases k with ⟨_, rfl⟩ | ⟨⟨m, hm, _⟩, _, _⟩
    · rfl
    · cases hm
  · rcases k with ⟨rfl, _⟩ | ⟨k1, k2, k3⟩
    · obtain ⟨m, hm, _⟩ := h1; cases hm
    · have a := h3 _ k1
      have b := k3 _ h1
      obtain ⟨p1, p2⟩ := p
      obtain ⟨q1, q2⟩ := q
      simp only at *
      have e1 : p1 = q1 := by omega
      subst e1
      rw [h2, k2]

set_option maxRecDepth 100000 in
set_option maxHeartbeats 1000000 in
theorem bytes_c (w : World) (v : Value) (l : List MailI) (h : Sl w 3 v (l.map MailI.cells)) (hs : Small l) : Calls Try.prog 23 #[v] w (Ret (.int .i64 (sumAll l)) w) := by
  obtain ⟨A, c, rfl, h1, h2, h3⟩ := sl_get h
  unfold maxLen at h2
  have hl := hs.1
  have HB : Hid (∀ k, 0 ≤ sumAll (l.take k) ∧ sumAll (l.take k) ≤ 100000) := fun k => sumAll_bd (hs.take k)
  have HS := hid hs.2
  clear h hs
  go_enter Try.func23, Try.ntmps23
  go_wp2_with fail
  go_loopw [3, 8] (fun n i wr => ∃ k : Nat, k ≤ l.length ∧ i = .int .i64 k ∧ n = .int .i64 (sumAll (l.take k)) ∧ Ext w wr) (fun _ i _ => l.length - (intOf i).toNat)
  case atStart => exact ⟨0, by omega, rfl, rfl, Ext.refl _⟩
  case round =>
    obtain ⟨k, hk, rfl, rfl, hE⟩ := hrel
    have HE := hid hE
    by_cases hlt : k < l.length
    · obtain ⟨b, o, rfl, lb, hcell⟩ := h3 (by omega)
      have c0 := hE.cell (hcell k hlt 0 _ rfl)
      have c1 := hE.cell (hcell k hlt 1 _ rfl)
      have c2 := hE.cell (hcell k hlt 2 _ rfl)
      rw [Nat.add_zero] at c0
      have lbr := Nat.lt_of_lt_of_le lb hE.size
      have HT : Hid (sumAll (l.take (k + 1)) = sumAll (l.take k) + l[k].s.size) := by unfold Hid; rw [List.take_succ_eq_append_getElem hlt, sumAll_snoc]
      have hz := HS.out _ (List.getElem_mem hlt)
      obtain ⟨b1, b2⟩ := HB.out k
      clear hE hcell h3
      generalize l[k] = z at c0 c1 c2 HT hz
      generalize sumAll (l.take k) = s at HT b1 b2 ⊢
      go_wp2_with fail
      exact ⟨⟨k + 1, by omega, by go_num, by rw [HT.out], HE.out.alloc' _⟩, by simp [intOf]; omega⟩
    · obtain rfl : k = l.length := by omega
      have HT : Hid (l.take l.length = l) := List.take_length
      clear hE h3
      go_wp2_with fail
      go_ret
      exact ⟨by rw [HT.out]; rfl, HE.out⟩
end Go.Proofs.Ytefgjkaoidifbaa
