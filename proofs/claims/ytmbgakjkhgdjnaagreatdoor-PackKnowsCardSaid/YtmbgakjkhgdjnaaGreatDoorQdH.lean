/-
  From what a row reads to what a walk asks; and from a walk that answers true to the row's end. Of no program.
  What versions and numbers that come in read as.
  Knowledge that comes in: what its cells read as.
-/
import Derived.Test.YtmbgakjkhgdjnaaGreatDoorQdL
import Derived.ProofKit
import Derived.Carry
import Derived.Deep.Slices
import Derived.Test.YtmbgakjkhgdjnaaGreatDoorRows
import Derived.Test.YtmbgakjkhgdjnaaGreatDoorQdC
import Derived.Test.YtmbgakjkhgdjnaaGreatDoorQcA
import Derived.Test.YtmbgakjkhgdjnaaGreatDoorQaD
import Derived.Test.YtmbgakjkhgdjnaaGreatDoorQbH
import Derived.Test.YtmbgakjkhgdjnaaGreatDoorQbF
import Derived.ChangeMaps5
import Derived.OpenShut
namespace Go.Proofs.YtmbgakjkhgdjnaaGreatDoor
set_option linter.unusedSimpArgs false
set_option linter.unusedVariables false
open Go.RowKit Go.ChangeShapes Go.WideShapes Go.Deep

section
variable {H : Type} {enc : TypeId × Value → H} {P : Program} {w : World}

/-- Whatever reads at type t is the code of some a that is right. -/
def Opens (P : Program) (w : World) (t : TypeId) {α : Type} (code : α → List Value) (ok : α → Prop) : Prop :=
  ∀ (H : Type) (enc : TypeId × Value → H) (fuel : Nat) (cs : List Value) (x : DataW H × List MemPlace), DataW.trod enc P w 0 (fun _ => true) true fuel t cs = some x → ∃ a, cs = code a ∧ ok a

theorem opens_int {t : TypeId} {k : IntKind} (ht : P.underlying t = some (.int k)) : Opens P w t (fun z : Int => [.int k z]) (fun z => (Lit.int k z).wf = true) := by
  intro H enc fuel cs x h
  cases fuel with
  | zero => simp [DataW.trod] at h
  | succ n =>
    unfold DataW.trod at h
    rw [ht] at h
    split at h <;> simp_all
theorem opens_bool {t : TypeId} (ht : P.underlying t = some .bool) : Opens P w t (fun z : Bool => [.bool z]) (fun _ => True) := by
  intro H enc fuel cs x h
  cases fuel with
  | zero => simp [DataW.trod] at h
  | succ n =>
    unfold DataW.trod at h
    rw [ht] at h
    split at h <;> simp_all
theorem opens_string {t : TypeId} (ht : P.underlying t = some .string) : Opens P w t (fun z : ByteArray => [.string z]) (fun z => z.size ≤ maxLen) := by
  intro H enc fuel cs x h
  cases fuel with
  | zero => simp [DataW.trod] at h
  | succ n =>
    unfold DataW.trod at h
    rw [ht] at h
    split at h <;> simp_all

/-- A slice of whatever opens. -/
theorem opens_slice {t e : TypeId} {α : Type} {code : α → List Value} {ok : α → Prop} (ht : P.underlying t = some (.slice e)) (he : Opens P w e code ok) {sz : Nat} (hsz : P.cellsOf e = sz) (hpos : 0 < sz)
    (hlen : ∀ a, (code a).length = sz) (fuel : Nat) (v : Value) (x : DataW H × List MemPlace) (h : DataW.trod enc P w 0 (fun _ => true) true fuel t [v] = some x) :
    ∃ l : List α, Sl w sz v (l.map code) ∧ ∀ a ∈ l, ok a := by
  subst hsz
  rcases open_slice ht h with ⟨hcs, _⟩ | ⟨a, len, cap, m, n, D, Pl, hcs, hb, hl, hm, hmm, hx, hi⟩
  · injection hcs with hv
    subst hv
    exact ⟨[], Sl.nil w _, by simp⟩
  · injection hcs with hv
    subst hv
    have hml : m = cap := by simp at hmm; exact hmm
    have each : ∀ i : Nat, i < len → ∃ y : α, w.cells? 0 (a.add (i * P.cellsOf e)) (P.cellsOf e) = some (code y) ∧ ok y := fun i hi' => by
      obtain ⟨cs', hc, htr⟩ := hi i (by omega)
      obtain ⟨y, rfl, hok⟩ := he H enc n cs' _ htr
      exact ⟨y, hc, hok⟩
    obtain ⟨l, hlen', hl'⟩ : ∃ l : List α, l.length = len ∧ ∀ i (h : i < l.length), w.cells? 0 (a.add (i * P.cellsOf e)) (P.cellsOf e) = some (code l[i]) ∧ ok l[i] := by
      clear hx hi hmm hml hl h
      induction len with
      | zero => exact ⟨[], rfl, fun i h => absurd h (by simp)⟩
      | succ len ih =>
        obtain ⟨l, h1, h2⟩ := ih (fun i h => each i (by omega))
        obtain ⟨y, hy, hok⟩ := each len (by omega)
        refine ⟨l ++ [y], by simp [h1], fun i h => ?_⟩
        by_cases hil : i < l.length
        · rw [List.getElem_append_left hil]; exact h2 i hil
        · have : i = l.length := by simp at h; omega
          subst this
          simp only [List.getElem_concat_length]
          rw [h1]
          exact ⟨hy, hok⟩
    refine ⟨l, ⟨some a, cap, by simp [hlen'], by simp [hlen']; exact hl, hm, fun hp => ?_⟩, fun y hy => ?_⟩
    · obtain ⟨b, o, s⟩ := a
      have hp0 : 0 < l.length := by simpa using hp
      have hc0 := (hl' 0 hp0).1
      obtain ⟨_, _, hat⟩ := World.cells?_some hc0
      have h0 := hat 0 hpos
      have h00 : (code l[0])[0]? = some ((code l[0])[0]'(by rw [hlen]; exact hpos)) := List.getElem?_eq_getElem _
      rw [h00] at h0
      have hs : s = none := by
        simp [World.cell?, Addr.add] at h0
        split at h0
        · cases s with
          | none => rfl
          | some z => simp at h0
        · cases h0
      subst hs
      have hbl : b < w.heap.size := by
        have := World.block_lt_of_cell? w _ h0
        simpa [Addr.add] using this
      refine ⟨b, o, rfl, hbl, fun k x j u hk hj => ?_⟩
      simp only [List.getElem?_map, Option.map_eq_some_iff] at hk
      obtain ⟨y, hy, rfl⟩ := hk
      obtain ⟨hkl, rfl⟩ := List.getElem?_eq_some_iff.1 hy
      obtain ⟨_, _, hat⟩ := World.cells?_some (hl' k hkl).1
      have hjl : j < P.cellsOf e := by
        have := (List.getElem?_eq_some_iff.1 hj).1
        rwa [hlen] at this
      have := hat j hjl
      rw [hj] at this
      rw [← this]
      simp only [Addr.add_lit]
    · obtain ⟨i, hi', rfl⟩ := List.getElem_of_mem hy
      exact (hl' i hi').2

theorem field_at {fs : Array Field} {xs : List (DataW H × List MemPlace)} {n : Nat} {cs : List Value} (hl : xs.length = fs.size)
    (hf : ∀ (i : Nat) (f : Field), fs[i]? = some f → DataW.trod enc P w 0 (fun _ => true) true n f.type ((cs.drop f.offset).take (P.cellsOf f.type)) = xs[i]?) {i : Nat} {f : Field} (hi : fs[i]? = some f) {sz : Nat} (hsz : P.cellsOf f.type = sz)
    {α : Type} {code : α → List Value} {ok : α → Prop} (ho : Opens P w f.type code ok) : ∃ a, (cs.drop f.offset).take sz = code a ∧ ok a := by
  have h := hf i f hi
  have hlt : i < xs.length := by rw [hl]; exact (Array.getElem?_eq_some_iff.1 hi).1
  rw [List.getElem?_eq_getElem hlt, hsz] at h
  exact ho H enc n _ _ h

/-- What comes in at a parameter of a struct's type. -/
theorem open_agg {t : TypeId} {fs : Array Field} {v : Value} {d : DataW H} {p : List MemPlace} {r : Reach} {b0 : Nat} {α : Type} {code : α → List Value} {ok : α → Prop} (ht : P.underlying t = some (.struct fs)) (ho : Opens P w t code ok)
    (hv : Value.okWide P w r b0 t v) (h : DataW.Trod enc P w 0 (fun _ => true) true t v d p) : ∃ a, v = .agg (code a).toArray ∧ ok a := by
  obtain ⟨cs, rfl, _⟩ := okWide_struct ht hv
  obtain ⟨fuel, hf⟩ := h
  obtain ⟨a, h1, h2⟩ := ho H enc fuel _ _ hf
  refine ⟨a, ?_, h2⟩
  have : cs.toList = code a := h1
  rw [← this]
theorem open_sl {t e : TypeId} {v : Value} {d : DataW H} {p : List MemPlace} {r : Reach} {b0 : Nat} {α : Type} {code : α → List Value} {ok : α → Prop} (ht : P.underlying t = some (.slice e)) (he : Opens P w e code ok) {sz : Nat} (hsz : P.cellsOf e = sz) (hpos : 0 < sz)
    (hlen : ∀ a, (code a).length = sz) (hv : Value.okWide P w r b0 t v) (h : DataW.Trod enc P w 0 (fun _ => true) true t v d p) : ∃ l : List α, Sl w sz v (l.map code) ∧ ∀ a ∈ l, ok a := by
  obtain ⟨a, len, cap, rfl⟩ := okWide_slice ht hv
  obtain ⟨fuel, hf⟩ := h
  exact opens_slice ht he hsz hpos hlen fuel _ _ hf
def okI (z : Int) : Prop := (Lit.int .i64 z).wf = true
theorem okI.bounds {z : Int} (h : okI z) : -9223372036854775808 ≤ z ∧ z ≤ 9223372036854775807 := by
  simpa [okI, Lit.wf, IntKind.min, IntKind.max, IntKind.signed, IntKind.bits] using h

/-- Each parameter's own reading again, where nothing that there was has turned. -/
theorem trodAll_ext {W W' : World} (hl : laidOutB P = true) (he : Ext W W') : ∀ (ts : List TypeId) (vs : List Value) (ds : List (DataW H)) (ps : List MemPlace), (ts.all fun t => P.readableRec t && decide (t < P.types.size)) = true → (∀ x ∈ ps, x.block < W.heap.size) →
    DataW.TrodAll enc P W 0 (fun _ => true) true ts vs ds ps → DataW.TrodAll enc P W' 0 (fun b => decide (b < W.heap.size)) true ts vs ds ps
  | [], [], [], _, _, _, h => h
  | t :: ts, v :: vs, d :: ds, ps, hr, hlt, h => by
    obtain ⟨p, q, h1, h2, rfl⟩ := h
    simp only [List.all_cons, Bool.and_eq_true, decide_eq_true_eq] at hr
    exact ⟨p, q, Below.trod hl hr.1.1 hr.1.2 h1 he (fun x hx => hlt x (by simp [hx])), trodAll_ext hl he ts vs ds q hr.2 (fun x hx => hlt x (by simp [hx])) h2, rfl⟩
  | [], [], _ :: _, _, _, _, h => h.elim
  | [], _ :: _, _, _, _, _, h => h.elim
  | _ :: _, [], _, _, _, _, h => h.elim
  | _ :: _, _ :: _, [], _, _, _, h => h.elim

/-- A law that answers true and makes new memory at the most. -/
theorem law_post {f : Func} {s : ChangeSpec} {W W' : World} {args : Array Value} {ds gs : List (DataW H)} {before : List MemPlace} {tb : TypeId} (hv : s.vars = []) (hs : s.fn H (ds ++ gs) = { results := [.lit (.bool true)], args := ds })
    (hr : f.resultTypes = #[tb]) (hb : P.underlying tb = some .bool) (hl : laidOutB P = true) (hp : (f.params.toList.all fun t => P.readableRec t && decide (t < P.types.size)) = true)
    (hW : DataW.Whole enc P f.params.toList s.vars false W args.toList ds gs before) (he : Ext W W') : s.post enc P f false true false false W args (.bool true) W' := by
  have hlt := fun x hx => hW.lt (p := x) hx
  obtain ⟨p, q, hA, hV, hpq, hz, hn⟩ := hW
  have hV' := hV
  rw [hv] at hV'
  cases gs with
  | cons g gs => exact hV'.elim
  | nil =>
    have hq : q = [] := hV'
    subst hq
    refine ⟨ds, [], before, [], p, [], ⟨p, [], hA, hV, hpq, hz, hn⟩, ?_, ?_, ?_, he.frame _, fun h => by cases h⟩
    · rw [hs, hr]
      exact trodAll_mk1 (shut_bool hb _)
    · rw [hs]
      exact trodAll_ext hl he _ _ _ _ hp (fun x hx => hlt x (by rw [hpq]; simp [hx])) hA
    · rw [hs, hv]
      rfl
end
end Go.Proofs.YtmbgakjkhgdjnaaGreatDoor
namespace Go.Proofs.YtmbgakjkhgdjnaaGreatDoor
set_option linter.unusedSimpArgs false
set_option linter.unusedVariables false
open Go.RowKit Go.ChangeShapes Go.WideShapes Go.ChangeAt Go.Deep

theorem underlyingBool : Tryz.prog.underlying 4 = some .bool := Tryz.underlying4
theorem own : ownKnob Tryz.prog.godebug = none := by kernel_rfl
theorem laidOut : laidOutB Tryz.prog = true := by kernel_rfl
theorem cellsVer : Tryz.prog.cellsOf 60 = 2 := by kernel_rfl
theorem cellsInt : Tryz.prog.cellsOf 3 = 1 := by kernel_rfl

theorem opens_i64 (w : World) : Opens Tryz.prog w 3 (fun z : Int => [.int .i64 z]) okI := opens_int Tryz.underlying3

set_option maxRecDepth 100000 in
theorem opens_ver (w : World) : Opens Tryz.prog w 60 Ver.cells (fun v => okI v.by_ ∧ okI v.n) := by
  intro H enc fuel cs x h
  obtain ⟨xs, n, _, _, hlen, hxs, hf⟩ := DataW.trod_struct Tryz.underlying60 h
  rw [cellsVer] at hlen
  match cs, hlen with
  | [c0, c1], _ =>
    obtain ⟨a, ha, oa⟩ := field_at hxs hf (i := 0) rfl cellsInt (opens_i64 w)
    obtain ⟨b, hb, ob⟩ := field_at hxs hf (i := 1) rfl cellsInt (opens_i64 w)
    simp at ha hb
    subst ha hb
    exact ⟨⟨a, b⟩, rfl, oa, ob⟩
end Go.Proofs.YtmbgakjkhgdjnaaGreatDoor
namespace Go.Proofs.YtmbgakjkhgdjnaaGreatDoor
set_option linter.unusedSimpArgs false
set_option linter.unusedVariables false
open Go.RowKit Go.ChangeShapes Go.WideShapes Go.ChangeAt Go.Deep

theorem ints_ofK (ok : Int → Prop) : ∀ cs : List Value, (∀ i, i < cs.length → ∃ z, cs[i]? = some (.int .i64 z) ∧ ok z) → ∃ v : List Int, cs = v.map (Value.int .i64) ∧ v.length = cs.length ∧ ∀ z ∈ v, ok z
  | [], _ => ⟨[], rfl, rfl, fun z hz => by cases hz⟩
  | c :: cs, h => by
    obtain ⟨z, h1, h2⟩ := h 0 (by simp)
    obtain ⟨v, h3, h4, h5⟩ := ints_ofK ok cs (fun i hi => by
      have := h (i + 1) (by simp; omega)
      simpa using this)
    simp at h1
    refine ⟨z :: v, by rw [h1, h3]; rfl, by simp [h4], fun y hy => ?_⟩
    rcases List.mem_cons.1 hy with rfl | hy
    · exact h2
    · exact h5 y hy
theorem cellsVecK : Tryz.prog.cellsOf 44 = 65 := by kernel_rfl
theorem cellsStrK : Tryz.prog.cellsOf 9 = 1 := by kernel_rfl
theorem cellsRgK : Tryz.prog.cellsOf 128 = 2 := by kernel_rfl
theorem cellsClK : Tryz.prog.cellsOf 130 = 3 := by kernel_rfl
theorem cellsVerK : Tryz.prog.cellsOf 60 = 2 := by kernel_rfl
theorem cellsClsK : Tryz.prog.cellsOf 40 = 1 := by kernel_rfl
theorem cellsVersK : Tryz.prog.cellsOf 45 = 1 := by kernel_rfl
theorem cellsFragK : Tryz.prog.cellsOf 79 = 67 := by kernel_rfl
theorem cellsKnownK : Tryz.prog.cellsOf 93 = 67 := by kernel_rfl
theorem cellsFrsK : Tryz.prog.cellsOf 22 = 1 := by kernel_rfl
theorem cellsKnsK : Tryz.prog.cellsOf 23 = 1 := by kernel_rfl
theorem cellsKnowK : Tryz.prog.cellsOf 25 = 2 := by kernel_rfl
set_option maxRecDepth 100000 in
theorem opens_vecK (w : World) : Opens Tryz.prog w 44 (fun v : List Int => v.map (Value.int .i64)) (fun v => v.length = 65 ∧ in64L v) := by
  intro H enc fuel cs x h
  obtain ⟨xs, n, _, _, hlen, hxl, hf⟩ := DataW.trod_array Tryz.underlying44 h
  rw [cellsVecK] at hlen
  obtain ⟨v, h1, h2, h3⟩ := ints_ofK okI cs (fun i hi => by
    have hi65 : i < 65 := by omega
    have hx := hf i hi65
    rw [cellsInt, Nat.mul_one] at hx
    have hlt : i < xs.length := by omega
    rw [List.getElem?_eq_getElem hlt] at hx
    obtain ⟨z, hz, oz⟩ := opens_i64 w H enc _ _ _ hx
    refine ⟨z, ?_, oz⟩
    have h0 : ((cs.drop i).take 1)[0]? = some (.int .i64 z) := by rw [hz]; rfl
    rw [List.getElem?_take, if_pos (by omega), List.getElem?_drop, Nat.add_zero] at h0
    exact h0)
  exact ⟨v, h1, by omega, fun z hz => (h3 z hz).bounds⟩
set_option maxRecDepth 100000 in
theorem opens_rgK (w : World) : Opens Tryz.prog w 128 Ver.cells (fun v => okI v.by_ ∧ okI v.n) := by
  intro H enc fuel cs x h
  obtain ⟨xs, n, _, _, hlen, hxs, hf⟩ := DataW.trod_struct Tryz.underlying128 h
  rw [cellsRgK] at hlen
  match cs, hlen with
  | [c0, c1], _ =>
    obtain ⟨a, ha, oa⟩ := field_at hxs hf (i := 0) rfl cellsInt (opens_i64 w)
    obtain ⟨b, hb, ob⟩ := field_at hxs hf (i := 1) rfl cellsInt (opens_i64 w)
    simp at ha hb
    subst ha hb
    exact ⟨⟨a, b⟩, rfl, oa, ob⟩
set_option maxRecDepth 100000 in
theorem opens_clK (w : World) : Opens Tryz.prog w 130 ClauseI.cells (fun c => in64 c.lo ∧ in64 c.hi) := by
  intro H enc fuel cs x h
  obtain ⟨xs, n, _, _, hlen, hxs, hf⟩ := DataW.trod_struct Tryz.underlying130 h
  rw [cellsClK] at hlen
  match cs, hlen with
  | [c0, c1, c2], _ =>
    obtain ⟨a, ha, oa⟩ := field_at hxs hf (i := 0) rfl cellsStrK (opens_string Tryz.underlying9)
    obtain ⟨b, hb, ob⟩ := field_at hxs hf (i := 1) rfl cellsRgK (opens_rgK w)
    simp [Ver.cells] at ha hb
    obtain ⟨hb1, hb2⟩ := hb
    subst ha hb1 hb2
    exact ⟨⟨a, b.by_, b.n⟩, rfl, ob.1.bounds, ob.2.bounds⟩
/-- A slice and what it reads as. -/
structure RowK (α : Type) where
  s : SlV
  l : List α
theorem opens_rowK {P : Program} {w : World} {t e : TypeId} {α : Type} {code : α → List Value} {ok : α → Prop} (ht : P.underlying t = some (.slice e)) (he : Opens P w e code ok) {sz : Nat} (hsz : P.cellsOf e = sz) (hpos : 0 < sz) (hlen : ∀ a, (code a).length = sz) : Opens P w t (fun s : RowK α => [s.s.val]) (fun s => Sl w sz s.s.val (s.l.map code) ∧ ∀ a ∈ s.l, ok a) := by
  intro H enc fuel cs x h
  have hv : ∃ v, cs = [v] := by
    rcases open_slice ht h with ⟨hcs, _⟩ | ⟨a, len, cap, m, n, D, Pl, hcs, _⟩
    · exact ⟨_, hcs⟩
    · exact ⟨_, hcs⟩
  obtain ⟨v, rfl⟩ := hv
  obtain ⟨l, h1, h2⟩ := opens_slice ht he hsz hpos hlen fuel v x h
  obtain ⟨A, c, rfl, _⟩ := id h1
  exact ⟨⟨⟨A, _, c⟩, l⟩, rfl, h1, h2⟩
/-- What is known of a whole claim that comes in. -/
structure FragIn (x : FragI) : Prop where
  len : x.v.length = 65
  v : in64L x.v
  n : ∀ y ∈ x.n, ver64 y
  f : ∀ c ∈ x.f, in64 c.lo ∧ in64 c.hi
set_option maxRecDepth 100000 in
theorem opens_frag (w : World) : Opens Tryz.prog w 79 (fun z : FragC × FragI => z.1.list) (fun z => FragAt w z.1 z.2 ∧ FragIn z.2) := by
  intro H enc fuel cs x h
  obtain ⟨xs, n, _, _, hlen, hxs, hf⟩ := DataW.trod_struct Tryz.underlying79 h
  rw [cellsFragK] at hlen
  obtain ⟨a, ha, oa, oa2⟩ := field_at hxs hf (i := 0) rfl cellsClsK (opens_rowK Tryz.underlying40 (opens_clK w) cellsClK (by decide) (fun _ => rfl))
  obtain ⟨b, hb, ob, ob2⟩ := field_at hxs hf (i := 1) rfl cellsVecK (opens_vecK w)
  obtain ⟨c, hc, oc, oc2⟩ := field_at hxs hf (i := 2) rfl cellsVersK (opens_rowK Tryz.underlying45 (opens_ver w) cellsVerK (by decide) (fun _ => rfl))
  have ha' : (cs.drop 0).take 1 = [a.s.val] := ha
  have hb' : (cs.drop 1).take 65 = intsV b := hb
  have hc' : (cs.drop 66).take 1 = [c.s.val] := hc
  have e : cs = [a.s.val] ++ (intsV b ++ [c.s.val]) := by
    rw [← ha', ← hb', ← hc', List.drop_zero, List.take_of_length_le (l := cs.drop 66) (by rw [List.length_drop]; omega)]
    have e1 : cs.drop 66 = (cs.drop 1).drop 65 := by rw [List.drop_drop]
    rw [e1, List.take_append_drop, List.take_append_drop]
  exact ⟨(⟨a.s, b, c.s, ob⟩, ⟨a.l, b, c.l⟩), e, ⟨rfl, oa, oc⟩, ⟨ob, ob2, fun y hy => ⟨(oc2 y hy).1.bounds, (oc2 y hy).2.bounds⟩, oa2⟩⟩
/-- What is known of an item's claim that comes in. -/
structure KnownIn (x : KnownI) : Prop where
  v : in64L x.v
  i : ver64 x.i
set_option maxRecDepth 100000 in
theorem opens_known (w : World) : Opens Tryz.prog w 93 KnownI.list KnownIn := by
  intro H enc fuel cs x h
  obtain ⟨xs, n, _, _, hlen, hxs, hf⟩ := DataW.trod_struct Tryz.underlying93 h
  rw [cellsKnownK] at hlen
  obtain ⟨a, ha, oa⟩ := field_at hxs hf (i := 0) rfl cellsVerK (opens_ver w)
  obtain ⟨b, hb, ob, ob2⟩ := field_at hxs hf (i := 1) rfl cellsVecK (opens_vecK w)
  have ha' : (cs.drop 0).take 2 = [.int .i64 a.by_, .int .i64 a.n] := ha
  have hb' : (cs.drop 2).take 65 = intsV b := hb
  have e : cs = [.int .i64 a.by_, .int .i64 a.n] ++ intsV b := by
    rw [← ha', ← hb', List.drop_zero, List.take_of_length_le (l := cs.drop 2) (by rw [List.length_drop]; omega), List.take_append_drop]
  exact ⟨⟨a, b, ob⟩, e, ob2, ⟨oa.1.bounds, oa.2.bounds⟩⟩
/-- Knowledge in two slices. -/
structure KnowS where
  u : SlV
  v : SlV
  k : KnowI
structure KnowIn (k : KnowI) : Prop where
  fs : ∀ x ∈ k.fs, FragIn x
  ks : ∀ x ∈ k.ks, KnownIn x
set_option maxRecDepth 100000 in
theorem opens_know (w : World) : Opens Tryz.prog w 25 (fun s : KnowS => [s.u.val, s.v.val]) (fun s => KnowAt w s.u.val s.v.val s.k ∧ KnowIn s.k) := by
  intro H enc fuel cs x h
  obtain ⟨xs, n, _, _, hlen, hxs, hf⟩ := DataW.trod_struct Tryz.underlying25 h
  rw [cellsKnowK] at hlen
  match cs, hlen with
  | [c0, c1], _ =>
    obtain ⟨a, ha, oa, oa2⟩ := field_at hxs hf (i := 0) rfl cellsFrsK (opens_rowK Tryz.underlying22 (opens_frag w) cellsFragK (by decide) (fun z => fragC_len z.1))
    obtain ⟨b, hb, ob, ob2⟩ := field_at hxs hf (i := 1) rfl cellsKnsK (opens_rowK Tryz.underlying23 (opens_known w) cellsKnownK (by decide) known_len)
    simp at ha hb
    subst ha hb
    refine ⟨⟨a.s, b.s, ⟨a.l.map (·.2), b.l⟩⟩, rfl, ⟨⟨a.l.map (·.1), by simp, fun i c x h1 h2 => ?_, ?_⟩, ob⟩, ⟨fun x hx => ?_, ob2⟩⟩
    · rw [List.getElem?_map] at h1 h2
      obtain ⟨z, hz, rfl⟩ := Option.map_eq_some_iff.1 h1
      rw [hz] at h2
      injection h2 with h2
      subst h2
      exact (oa2 z (List.mem_of_getElem? hz)).1
    · rw [List.map_map]
      exact oa
    · obtain ⟨z, hz, rfl⟩ := List.mem_map.1 hx
      exact (oa2 z hz).2
end Go.Proofs.YtmbgakjkhgdjnaaGreatDoor
