/-
  append onto a row of bytes of one's own, in place or not, ahead of a second one.
-/
import Derived.Test.YtanflgipdiogaaaDoorQaB
import Derived.Test.YtanflgipdiogaaaDoorApp
import Derived.Test.YtanflgipdiogaaaDoorAwK
namespace Go.Proofs.YtanflgipdiogaaaDoor
set_option linter.unusedSimpArgs false
set_option linter.unusedVariables false
open Go.RowKit

/-- The row's own block alone has turned: what begins it stays, and rows that read as the longer one do. -/
def MidB (B : Nat) (v : Value) (acc full : List UInt8) (a b : World) : Prop :=
  Keep (fun g => v.ownBlock = some g) a b ∧ (B ≤ a.heap.size → (∀ u, OwnB full B u a → OwnB full B u b) ∧ (OwnB acc B v a → OwnB acc B v b))
theorem MidB.ofExt (B : Nat) (v : Value) (acc full : List UInt8) (a b : World) (h : Ext a b) : MidB B v acc full a b := ⟨Keep.of_ext h, fun _ => ⟨fun _ hu => hu.ext h, fun hv => hv.ext h⟩⟩
abbrev Rel.mid (B : Nat) (v : Value) (acc full : List UInt8) : Rel := ⟨MidB B v acc full, fun w => MidB.ofExt _ _ _ _ w w (Ext.refl w), fun _ _ _ h k => ⟨h.1.trans k.1, fun hB => ⟨fun u hu => (k.2 (Nat.le_trans hB h.1.size)).1 u ((h.2 hB).1 u hu), fun hv => (k.2 (Nat.le_trans hB h.1.size)).2 ((h.2 hB).2 hv)⟩⟩, MidB.ofExt B v acc full⟩
theorem OwnB.app2 {l m : List UInt8} {B : Nat} {v u : Value} {w : World} {tx : TypeId} (h : OwnB l B v w) (hB : B ≤ w.heap.size) (hs : Src Tryd.prog 1 tx u m.length (m.map byteC).flatten w) (hl : l.length ≤ 1000000) (hml : m.length ≤ 1000000) : ∃ v' w', (Builtin.append_ #[150, tx] 150 #[v, u]).run Tryd.prog w = .ok v' w' ∧ OwnB (l ++ m) B v' w' ∧ MidB B v l (l ++ m) w w' ∧ (v'.ownBlock = v.ownBlock ∨ ∀ q, v'.ownBlock = some q → w.heap.size ≤ q) := by
  obtain ⟨v', w', hr, ho, hk, hb9⟩ := h.app hB hs hl hml
  refine ⟨v', w', hr, ho, ⟨hk, fun _ => ?_⟩, hb9⟩
  rcases h.2.2 with ⟨rfl, h0⟩ | ⟨g, cap, cs, rfl, hb, hg, h3, h4, h5, h6⟩
  · have hx : Ext w w' := hk.toExt (Ext.refl _) fun q hq => by cases hq
    exact ⟨fun _ hu => hu.ext hx, fun hv => hv.ext hx⟩
  · obtain ⟨i, z, hi, hz, h1, h2, hzs⟩ := byte_elem.2
    have hown : Own B 5 1 l.length (l.map byteC).flatten (.slice (some ⟨g, 0, none⟩) l.length cap) w := ⟨hB, h.2.1, g, cap, cs, rfl, hb, hg, h3, h4, h5, h6⟩
    obtain ⟨v2, w2, hr2, _, hf⟩ := append_own (P := Tryd.prog) (ty := 150) Tryd.underlying150 hi hz h1 h2 hzs hown rfl hs (by unfold maxLen; omega) (by omega)
    rw [hr] at hr2
    injection hr2 with e1 e2
    subst e1 e2
    obtain ⟨_, hf⟩ := hf hB
    have hfull : ((l ++ m).map byteC).flatten = (l.map byteC).flatten ++ (m.map byteC).flatten := by rw [List.map_append, List.flatten_append]
    have hfl : ((l ++ m).map byteC).flatten.length = (l ++ m).length * 1 := byte_coded.flat_len _
    constructor
    · rintro u ⟨hu1, hu2, hu3⟩
      refine ⟨hu1, hu2, ?_⟩
      rcases hu3 with hu3 | ⟨g', cap', cs', rfl, hb', hg', a3, a4, a5, a6⟩
      · exact .inl hu3
      · obtain ⟨cs2, b1, b2, _, b4⟩ := hf g' _ cs' hb' hg'
        refine .inr ⟨g', cap', cs2, rfl, hb', b1, a3, a4, b2.trans a5, ?_⟩
        rw [← hfull, hfl] at b4
        exact b4 a6
    · rintro ⟨hu1, hu2, _⟩
      obtain ⟨cs2, b1, b2, b3, _⟩ := hf g _ cs hb hg
      refine ⟨hu1, hu2, .inr ⟨g, cap, cs2, rfl, hb, b1, h3, h4, b2.trans h5, ?_⟩⟩
      rw [b3]
      exact h6
theorem AWk.two {P : Program} {ops : Array Oper} {M : Rel} {F : World → Prop} {a0 : Act} {Q : Exit → Act → World → Prop} {b : Act} {A : Anys} {z1 z2 : Oper} (hs : b.tmps.size = a0.tmps.size) (hd : b.defers = a0.defers) (hk : keysB b.tmps.size A = true)
    (h : ∀ w, F w → closeAny (wpList P ops Q [z1, z2]) w A b) : AWk P ops M F (AfterTwo P ops F a0 Q z1 z2) [] b A :=
  fun a w he hsz hdf hsl => closeAny_sound A b hk (by rw [hs, hsz]) (by rw [hd, hdf]) (fun t ht => hsl t (by rw [← hs]; exact ht)) (h w he)
theorem wp_region_twok {P : Program} {a0 : Act} {id : Nat} {L pre : List Oper} {z1 z2 : Oper} {Q : Exit → Act → World → Prop} {w : World} (M : Rel) (F : World → Prop) (hpre : L.dropLast.dropLast = pre) (hz1 : L.dropLast.getLast? = some z1) (hz2 : L.getLast? = some z2) (hF : SteadyR M F) (hF0 : F w.drew) (hm : P.follows .mixedOrders = true) (hg : graphB L.toArray a0.tmps.size = true) (hlk : looksB L.toArray a0.tmps.size = true)
    (hl1 : lastB L.toArray (L.length - 2) = true) (hl2 : lastB L.toArray (L.length - 1) = true)
    (h : AWk P L.toArray M F (AfterTwo P L.toArray F a0 Q z1 z2) pre a0 []) : (Code.region id L.toArray true).wp P Q a0 w := by
  have tail : ∀ {A : List Oper} {z : Oper}, A.getLast? = some z → A = A.dropLast ++ [z] := fun {A z} hz => by
    have hne : A ≠ [] := by rintro rfl; cases hz
    rw [List.getLast?_eq_some_getLast hne] at hz
    injection hz with hz
    rw [← hz, List.dropLast_concat_getLast hne]
  have hL : L = pre ++ [z1, z2] := by
    have h1 := tail hz1
    rw [hpre] at h1
    have h2 := tail hz2
    rw [h1] at h2
    simpa using h2
  subst hL
  have e1 : (pre ++ [z1, z2]).length - 2 = pre.length := by simp
  have e2 : (pre ++ [z1, z2]).length - 1 = pre.length + 1 := by simp
  rw [e1] at hl1
  rw [e2] at hl2
  exact wp_region_aw_two M F hF hF0 hm hg hlk hl1 hl2 h
end Go.Proofs.YtanflgipdiogaaaDoor
