/-
  A whole claim that is built; what is read is kept typed: the rows of pack.GetFilter, GetVec, GetItems.
  A whole claim and an item's claim are read: pack.getFrag, pack.getKnown.
  pack.parts of whole claims and of items' claims (written by gen_partsa.py).
  pack.same of knowledge; pack.GetKnow.
  The document's Know.
-/
import Derived.Test.YtmbgakjkhgdjnaaGreatDoorQcD
import Derived.Test.YtmbgakjkhgdjnaaGreatDoorQbK
import Derived.Test.YtmbgakjkhgdjnaaGreatDoorQdJ
import Derived.Test.YtmbgakjkhgdjnaaGreatDoorQbF
import Derived.Test.YtmbgakjkhgdjnaaGreatDoorQdI
import Derived.Test.YtmbgakjkhgdjnaaGreatDoorResk
import Derived.Test.YtmbgakjkhgdjnaaGreatDoorQbH
namespace Go.Proofs.YtmbgakjkhgdjnaaGreatDoor
set_option linter.unusedSimpArgs false
set_option linter.unusedVariables false
open Go.RowKit

def max4 (x y z u : Int) : Int := if u > (if z > (if y > x then y else x) then z else (if y > x then y else x)) then u else (if z > (if y > x then y else x) then z else (if y > x then y else x))
def max2 (x y : Int) : Int := if y > x then y else x
theorem run_max_four {P : Program} (w : World) (ts : Array TypeId) (t : TypeId) (k k' k'' k3 : IntKind) (x y z u : Int) : (Builtin.max_ ts t #[.int k x, .int k' y, .int k'' z, .int k3 u]).run P w = .ok (.int k (max4 x y z u)) w := by
  simp [Builtin.max_, Builtin.max2, max4]
theorem run_max_two {P : Program} (w : World) (ts : Array TypeId) (t : TypeId) (k k' : IntKind) (x y : Int) : (Builtin.max_ ts t #[.int k x, .int k' y]).run P w = .ok (.int k (max2 x y)) w := by
  simp [Builtin.max_, Builtin.max2, max2]
/-- Cells put into an array, one after the other. -/
theorem fold_put : ∀ (vs : List Value) (cs : Array Value) (o k : Nat), o + k + vs.length ≤ cs.size → ((vs.zipIdx k).foldl (fun (cs : Array Value) (x : Value × Nat) => cs.setIfInBounds (o + x.2) x.1) cs).toList = cs.toList.take (o + k) ++ (vs ++ cs.toList.drop (o + k + vs.length))
  | [], cs, o, k, _ => by simp
  | v :: vs, cs, o, k, h => by
    rw [List.length_cons] at h
    have h2 : o + k < cs.toList.length := by rw [Array.length_toList]; omega
    rw [List.zipIdx_cons, List.foldl_cons, fold_put vs (cs.setIfInBounds (o + k) v) o (k + 1) (by simp; omega)]
    simp only [Array.toList_setIfInBounds, List.length_cons]
    rw [show o + (k + 1) = (o + k) + 1 from rfl, List.take_succ_eq_append_getElem (by rw [List.length_set]; exact h2), List.getElem_set_self, List.take_set_of_le (Nat.le_refl _), List.drop_set_of_lt (by omega), List.append_assoc]
    simp only [List.cons_append, List.nil_append]
    rw [show o + k + 1 + vs.length = o + k + (vs.length + 1) by omega]
theorem fill_part {place : Nat → Option (Nat × Nat)} {cells : Array Value} {i off : Nat} {v : Value} {rest : List (Nat × Value)} (hp : place i = some (off, v.cells.size)) (hle : off + v.cells.size ≤ cells.size) (r : Array Value) (hr : r.toList = cells.toList.take off ++ (v.cells.toList ++ cells.toList.drop (off + v.cells.size))) : Instr.fill place cells ((i, v) :: rest) = Instr.fill place r rest := by
  have e : Array.foldl (fun (cs : Array Value) (x : Value × Nat) => cs.setIfInBounds (off + x.2) x.1) cells v.cells.zipIdx = r := by
    apply Array.ext'
    rw [hr]
    have h := fold_put v.cells.toList cells off 0 (by rw [Array.length_toList]; exact hle)
    rw [Nat.add_zero, Array.length_toList] at h
    rw [← h, ← Array.foldl_toList, Array.toList_zipIdx]
  conv => lhs; unfold Instr.fill
  simp only [hp]
  rw [if_neg (by simp; omega)]
  rw [← e]
theorem frag_places : ∃ it fields, Tryz.prog.info? 79 = some it ∧ Tryz.prog.underlying 79 = some (.struct fields) ∧ it.zero.map (·.cells) = some fragZ ∧ (fields.toList.mapM (fun f => (Tryz.prog.info? f.type).map fun i => (f.offset, i.size))) = some [(0, 1), (1, 65), (66, 1)] := by
  have h : (Tryz.prog.info? 79).bind (fun it => it.zero.map (·.cells)) = some fragZ := by kernel_rfl
  obtain ⟨it, h1, h2⟩ := Option.bind_eq_some_iff.1 h
  exact ⟨it, _, h1, Tryz.underlying79, h2, by kernel_rfl⟩
theorem frag_built (c : FragC) : Tryz.prog.built 79 [(0, .slice c.f.a c.f.n c.f.c), (1, .agg (vecV c.v)), (2, .slice c.n.a c.n.n c.n.c)] = some c.arr := by
  obtain ⟨it, fields, h1, h2, h3, h4⟩ := frag_places
  obtain ⟨z, hz, hzc⟩ := Option.map_eq_some_iff.1 h3
  unfold Program.built
  simp only [h1, h2, hz, h4, hzc]
  have hvs : (vecV c.v).size = 65 := by rw [vecV_size]; exact c.hv
  have hvl : (vecV c.v).toList = intsV c.v := by simp [vecV, intsV]
  have hZ : fragZ.toList = [nilS.val] ++ (intsV vec0 ++ [nilS.val]) := by unfold fragZ FragC.arr FragC.list; rfl
  have hl0 : (intsV vec0).length = 65 := by rw [intsV_len]; exact vec0_len
  have hlc : (intsV c.v).length = 65 := by rw [intsV_len]; exact c.hv
  rw [fill_part (off := 0) (r := ([c.f.val] ++ (intsV vec0 ++ [nilS.val])).toArray) rfl (by show 0 + 1 ≤ fragZ.size; rw [fragZ_size]; omega) (by rw [hZ]; rfl)]
  rw [fill_part (off := 1) (r := ([c.f.val] ++ (intsV c.v ++ [nilS.val])).toArray) (by show _ = some (1, (vecV c.v).size); rw [hvs]; rfl) (by show 1 + (vecV c.v).size ≤ _; rw [hvs]; simp [hl0]) (by
    show _ = _ ++ ((vecV c.v).toList ++ List.drop (1 + (vecV c.v).size) _)
    rw [hvs, hvl]
    simp only [List.singleton_append, List.take_succ_cons, List.take_zero, List.drop_succ_cons, show 1 + 65 = 65 + 1 from rfl]
    rw [List.drop_left' hl0])]
  rw [fill_part (off := 66) (r := c.arr) rfl (by show 66 + 1 ≤ _; simp [hlc]) (by
    show c.list = _ ++ ([c.n.val] ++ List.drop (66 + 1) _)
    unfold FragC.list
    simp only [List.singleton_append, List.take_succ_cons, List.drop_succ_cons, show 66 = 65 + 1 from rfl]
    rw [List.take_left' hlc, show 65 + 1 = (intsV c.v ++ [nilS.val]).length by rw [List.length_append, hlc]; rfl, List.drop_length]
    simp)]
  rfl
theorem known_built (x : Ver) : Tryz.prog.built 93 [(0, .agg #[.int .i64 x.by_, .int .i64 x.n])] = some (KnownI.mk x vec0 vec0_len).arr := by kernel_rfl

theorem quiet_build {P : Program} {o : Oper} {T : TypeId} {parts : Array (Nat × Operand)} {cells : Array Value} {a : Act} {C : World → Prop} {K : Act → Prop} (hop : o.op = .build T parts) (hb : P.built T (parts.map fun (i, x) => (i, a.eval x)).toList = some cells) (hK : K (a.put o.dst (.agg cells))) : o.quiet P a C K := by
  refine ⟨.agg cells, fun w _ => ?_, hK⟩
  have h1 := run_build (P := P) w T _ cells hb
  simp only [Oper.quietAt, execOp, hop, Sem.run_bind, Sem.run_pure, Result.andThen, h1]
  exact ⟨rfl, rfl⟩
/-- A row that is kept typed: of its own, or old. -/
def RowT (w : World) (e : TypeId) (sz : Nat) (s : SlV) (n : Nat) (xs : List Value) : Prop := w.ownsRow 0 e sz s.val n xs
/-- A whole claim's cells, its rows typed. -/
def FragO (w : World) (c : FragC) (x : FragI) : Prop := c.v = x.v ∧ RowT w 130 3 c.f x.f.length (x.f.map ClauseI.cells).flatten ∧ RowT w 60 2 c.n x.n.length (x.n.map Ver.cells).flatten
theorem FragO.at {w : World} {c : FragC} {x : FragI} (h : FragO w c x) : FragAt w c x :=
  ⟨h.1, sl_of_row (xs := x.f.map ClauseI.cells) (clause_coded.sizes _) (by rw [List.length_map]; exact h.2.1), sl_of_row (xs := x.n.map Ver.cells) (vr_coded.sizes _) (by rw [List.length_map]; exact h.2.2)⟩
theorem FragO.ext {w w' : World} {c : FragC} {x : FragI} (h : FragO w c x) (he : Ext w w') : FragO w' c x := ⟨h.1, ownsRow_ext h.2.1 he, ownsRow_ext h.2.2 he⟩
/-- What else turns leaves it, if it is of another type. -/
theorem FragO.keep {w w' : World} {c : FragC} {x : FragI} {S : Nat → Prop} (h : FragO w c x) (hk : Keep S w w') (h1 : ∀ q, c.f.val.ownBlock = some q → ¬ S q) (h2 : ∀ q, c.n.val.ownBlock = some q → ¬ S q) : FragO w' c x := ⟨h.1, ownsRow_keep h.2.1 hk h1, ownsRow_keep h.2.2 hk h2⟩
theorem FragO.keepBlk {w w' : World} {c : FragC} {x : FragI} {q : Nat} {t : TypeId} {cs : Array Value} (h : FragO w c x) (hb : Blk w q t cs) (h1 : 130 ≠ t) (h2 : 60 ≠ t) (hk : Keep (fun g => g = q) w w') : FragO w' c x :=
  h.keep hk (fun g hg hq => row_apart h.2.1 hb h1 (by rw [← hq]; exact hg)) (fun g hg hq => row_apart h.2.2 hb h2 (by rw [← hq]; exact hg))
theorem FragO.keepRow {w w' : World} {c : FragC} {x : FragI} {B sz n : Nat} {t : TypeId} {v : Value} {xs : List Value} (h : FragO w c x) (hr : w.ownsRow B t sz v n xs) (h1 : 130 ≠ t) (h2 : 60 ≠ t) (hk : Keep (fun g => v.ownBlock = some g) w w') : FragO w' c x :=
  h.keep hk (fun g hg hq => rows_apart h.2.1 hr h1 g hg hq) (fun g hg hq => rows_apart h.2.2 hr h2 g hg hq)

theorem getFo_c (w : World) (s : ByteArray) (m : Int) (hm : w.cell? ⟨0, 0, none⟩ = some (.int .i64 m)) (hs : s.size ≤ 65536) : Calls Tryz.prog 110 #[.string s] w (fun en w' => ∃ (v : SlV) (l : List ClauseI) (z : Int), en = .returned (.tuple #[.slice v.a v.n v.c, .int .i64 z]) ∧ RowT w' 130 3 v l.length (l.map ClauseI.cells).flatten ∧ (∀ c ∈ l, c.pre.size ≤ 90000) ∧ Ext w w' ∧ (∀ f, clausesB f = true → s = listB clB f → z = 0 ∧ l = f)) := by
  refine (getF_c w s m hm (by omega)).mono ?_
  rintro en w' ⟨v, l, z, rfl, hx, hd, hb⟩
  rcases hd with ⟨rfl, _, _, _, hg, hr⟩ | ⟨rfl, rfl⟩
  · obtain ⟨sv, rfl⟩ := slV_of hr
    exact ⟨sv, l, 0, rfl, ownsRow_mono hr (Nat.zero_le _), fun c hc => (hg c hc).1, hx, hb⟩
  · exact ⟨nilS, [], 6, rfl, ownsRow_nil _ _ _ _, fun c hc => (by cases hc), hx, fun f a b => absurd (hb f a b).1 (by decide)⟩
theorem getIo_c (w : World) (s : ByteArray) (hs : s.size ≤ 65536) : Calls Tryz.prog 111 #[.string s] w (fun en w' => ∃ (v : SlV) (l : List Ver) (z : Int), en = .returned (.tuple #[.slice v.a v.n v.c, .int .i64 z]) ∧ RowT w' 60 2 v l.length (l.map Ver.cells).flatten ∧ (∀ c ∈ l, okVer c) ∧ l.length ≤ 65536 ∧ Ext w w' ∧ (∀ f : List Ver, (∀ c ∈ f, ver64 c) → f.length ≤ 90000 → itemsB f = true → s = listB verB f → z = 0 ∧ l = f)) := by
  refine (getIx_c w s hs).mono ?_
  rintro en w' ⟨v, l, z, rfl, hx, hd, hb⟩
  rcases hd with ⟨rfl, _, _, _, hg, hl, hr⟩ | ⟨rfl, rfl⟩
  · obtain ⟨sv, rfl⟩ := slV_of hr
    exact ⟨sv, l, 0, rfl, ownsRow_mono hr (Nat.zero_le _), hg, by omega, hx, hb⟩
  · exact ⟨nilS, [], 6, rfl, ownsRow_nil _ _ _ _, fun c hc => (by cases hc), Nat.zero_le _, hx, fun f a b c d => absurd (hb f a b c d).1 (by decide)⟩
theorem getVo_c (w : World) (s : ByteArray) (hs : s.size ≤ 65536) : Calls Tryz.prog 35 #[.string s] w (fun en w' => ∃ (v : List Int) (z : Int), en = .returned (.tuple #[.agg (vecV v), .int .i64 z]) ∧ v.length = 65 ∧ in64L v ∧ Ext w w' ∧ (∀ u : List Int, u.length = 65 → in64L u → u = cleanL u → s = listB verB (endsL u) → z = 0 ∧ v = u)) := by
  refine (getV_x w s (by omega)).mono ?_
  rintro en w' ⟨v, h1, h2, hb, rfl, hx⟩
  refine ⟨_, _, rfl, ?_, ?_, hx, fun u a b c d => ?_⟩
  · split
    · exact h1
    · exact vec0_len
  · split
    · exact h2
    · exact vec0_in
  · obtain rfl := hb u a b c d
    have hg : gotV v s := by
      unfold gotV
      rw [decide_eq_true c]; exact ⟨rfl, d.symm⟩
    rw [if_pos hg, if_pos hg]
    exact ⟨rfl, rfl⟩
end Go.Proofs.YtmbgakjkhgdjnaaGreatDoor
namespace Go.Proofs.YtmbgakjkhgdjnaaGreatDoor
set_option linter.unusedSimpArgs false
set_option linter.unusedVariables false
open Go.RowKit

attribute [go_sem] run_max_four
/-- What a whole claim that was read is like. -/
structure FragG (x : FragI) : Prop where
  ok : FragOk x
  sz : ∀ c ∈ x.f, c.pre.size ≤ 90000
theorem frag_back {s s2 s3 s4 t1 t2 t3 : ByteArray} {e2 e3 e4 : Int} (r1 : ReadT s 0 t1 s2 e2) (r2 : ReadT s2 e2 t2 s3 e3) (r3 : ReadT s3 e3 t3 s4 e4) (x : FragI) (hs : s = fragB x) : t1 = listB clB x.f ∧ t2 = listB verB (endsL x.v) ∧ t3 = listB verB x.n ∧ endK s4 e4 = 0 := by
  have e : s.data.toList = lebL (listB clB x.f).size ++ ((listB clB x.f).data.toList ++ (lebL (listB verB (endsL x.v)).size ++ ((listB verB (endsL x.v)).data.toList ++ (lebL (listB verB x.n).size ++ ((listB verB x.n).data.toList ++ []))))) := by
    rw [hs]
    unfold fragB
    simp only [ByteArray.data_append, Array.toList_append, textB_list, List.append_assoc, List.append_nil]
  obtain ⟨a1, a2, a3⟩ := r1 _ _ rfl e
  obtain ⟨b1, b2, b3⟩ := r2 _ _ a3 a2
  obtain ⟨c1, c2, c3⟩ := r3 _ _ b3 b2
  refine ⟨a1, b1, c1, ?_⟩
  unfold endK
  have : s4.size = 0 := by
    have h : s4.data.toList.length = s4.size := by rw [Array.length_toList]; rfl
    rw [← h, c2]; rfl
  rw [if_pos c3, if_pos this]
theorem known_back {s s2 s3 t1 : ByteArray} {e2 e3 : Int} {z1 z2 : Nat} (r1 : ReadV s 0 z1 z2 s2 e2) (r2 : ReadT s2 e2 t1 s3 e3) (x : KnownI) (hx : okVer x.i) (hs : s = knownB x) : (⟨z1, z2⟩ : Ver) = x.i ∧ t1 = listB verB (endsL x.v) ∧ endK s3 e3 = 0 := by
  have e : s.data.toList = lebL x.i.by_.toNat ++ (lebL x.i.n.toNat ++ (lebL (listB verB (endsL x.v)).size ++ ((listB verB (endsL x.v)).data.toList ++ []))) := by
    rw [hs]
    unfold knownB
    simp only [ByteArray.data_append, Array.toList_append, textB_list, verB_list hx, List.append_assoc, List.append_nil, List.nil_append]
  obtain ⟨h1, h2, h3, h4⟩ := hx
  obtain ⟨a1, a2, a3, a4⟩ := r1 _ _ _ rfl (by omega) (by omega) e
  obtain ⟨b1, b2, b3⟩ := r2 _ _ a4 a3
  refine ⟨?_, b1, ?_⟩
  · obtain ⟨⟨b, n⟩, _, _⟩ := x
    dsimp only at *
    rw [show (z1 : Int) = b by omega, show (z2 : Int) = n by omega]
  · unfold endK
    have : s3.size = 0 := by
      have h : s3.data.toList.length = s3.size := by rw [Array.length_toList]; rfl
      rw [← h, b2]; rfl
    rw [if_pos b3, if_pos this]
/-- A store of a variable of many cells. -/
theorem gives_store {P : Program} {o : Oper} {a : Act} {w : World} {ψ : Value → World → Prop} {T : TypeId} {x y : Operand} {g : Nat} {cs cs' : Array Value} (hop : o.op = .store T x y) (hx : a.eval x = .pointer (some ⟨g, 0, none⟩)) (hy : a.eval y = .agg cs') (h : Blk w g T cs) (hi : (P.info? T).map (·.size) = some cs'.size) (ho : cs.size = cs'.size) (h1 : cs'.all (·.oneCell') = true) (hψ : ψ undef (w.setRow g cs')) : Gives P ψ ((execOp a.eval o).run P w) := by
  have hr := run_storeVar_row (P := P) w g T T cs cs' h hi ho h1
  simp only [execOp, hop, hx, hy, Instr.storeAt, Instr.sureAddr, Sem.run_bind, Sem.run_pure, Result.andThen, hr]
  exact hψ
/-- What a region turns that stores these cells in the block g, and makes new memory beside. -/
def relSt (g : Nat) (T : TypeId) (cs : Array Value) : Rel where
  r a b := Keep (fun q => q = g) a b ∧ (Blk a g T cs → Blk b g T cs) ∧ ((∃ c, Blk a g T c ∧ c.size = cs.size) → ∃ c, Blk b g T c ∧ c.size = cs.size)
  refl w := ⟨Keep.refl _ _, id, id⟩
  trans a b c h k := ⟨h.1.trans k.1, fun x => k.2.1 (h.2.1 x), fun x => k.2.2 (h.2.2 x)⟩
  ofExt a b h := ⟨Keep.of_ext h, fun x => x.ext h, fun ⟨c, x, y⟩ => ⟨c, x.ext h, y⟩⟩
def facSt (w : World) (g : Nat) (T : TypeId) (cs : Array Value) (W : World) : Prop := Keep (fun q => q = g) w W ∧ ∃ c, Blk W g T c ∧ c.size = cs.size
theorem facSt.steady (w : World) (g : Nat) (T : TypeId) (cs : Array Value) : SteadyR (relSt g T cs) (facSt w g T cs) := fun a b h ⟨k, e⟩ => ⟨k.trans h.1, h.2.2 e⟩
theorem facSt.start {w : World} {g : Nat} {T : TypeId} {cs c : Array Value} (h : Blk w g T c) (hs : c.size = cs.size) : facSt w g T cs w.drew := ⟨Keep.of_ext (Ext.drew w), c, h.ext (Ext.drew w), hs⟩
theorem blk_steady (g : Nat) (T : TypeId) (cs : Array Value) : SteadyR (relSt g T cs) (fun W => Blk W g T cs) := fun a b h x => h.2.1 x
theorem stored {w : World} {g : Nat} {T : TypeId} {cs c : Array Value} (h : Blk w g T c) (hs : c.size = cs.size) : Blk (w.setRow g cs) g T cs ∧ (relSt g T cs).r w (w.setRow g cs) :=
  ⟨h.setRow cs, Keep.setRow (S := fun q => q = g) (Keep.refl _ w) (.inl rfl) cs, fun _ => h.setRow cs, fun _ => ⟨cs, h.setRow cs, rfl⟩⟩
theorem vecV_size65 {v : List Int} (h : v.length = 65) : (vecV v).size = 65 := by rw [vecV_size]; exact h
attribute [-simp] Tryz.isAgg44 Tryz.sizeOf44 Tryz.isAgg79 Tryz.sizeOf79 Tryz.isAgg93 Tryz.sizeOf93
set_option maxRecDepth 100000 in
set_option maxHeartbeats 8000000 in
theorem getFrag_c (w : World) (s : ByteArray) (m : Int) (hm : w.cell? ⟨0, 0, none⟩ = some (.int .i64 m)) (hs : s.size ≤ 65536) : Calls Tryz.prog 56 #[.string s] w (fun en w' => ∃ (c : FragC) (x : FragI) (e : Int), en = .returned (.tuple #[.agg c.arr, .int .i64 e]) ∧ FragO w' c x ∧ FragG x ∧ Ext w w' ∧ ∀ x0 : FragI, x0.v.length = 65 → FragOk x0 → mayF x0 = true → s = fragB x0 → x = x0 ∧ e = 0) := by
  have HO := fun W => hid (over_c W s)
  have HT := fun W q (s' : ByteArray) (e' : Int) (h' : InAt W q s' e') (hs' : s'.size ≤ 65536) => hid (t_c W q s' e' h' (by omega))
  have HEnd := fun W q (s' : ByteArray) (e' : Int) (h' : InAt W q s' e') => hid (end_c W q s' e' h')
  have HGf := fun W t (hW : Ext w W) (ht : t.size ≤ 65536) => hid (getFo_c W t m (hW.cell hm) ht)
  have HGv := fun W t (ht : t.size ≤ 65536) => hid (getVo_c W t ht)
  have HGi := fun W t (ht : t.size ≤ 65536) => hid (getIo_c W t ht)
  have HR0 := hid (Blk.new w 79 fragZ)
  have HE0 := hid (Ext.alloc w (.cells fragZ 79))
  clear hm
  go_enter Tryz.func56, Tryz.ntmps56
  go_wp2_with fail
  refine ((HO _).out).mono ?_
  rintro en w1 ⟨v, rfl, ⟨q, rfl, hq, hI⟩, x1⟩
  have HI1 := hid hI
  have HR1 := hid (HR0.out.ext x1)
  have HE1 := hid (HE0.out.trans x1)
  rw [World.size_alloc] at hq
  have NR : Hid (¬ w.heap.size = q) := by unfold Hid; omega
  have HQ := hid hq
  clear hI x1 hq HR0 HE0 HO
  have HK1 := hid (Keep.of_ext (S := fun g => g = q) HE1.out)
  have ToE : Hid (∀ W, Keep (fun g => g = q) w W → Ext w W) := fun W hk => Ext.of_below (hk.below (Nat.le_refl _) fun k hk => by have := HQ.out; omega)
  clear HE1
  go_wp2_with fail
  refine ((HT _ _ _ _ HI1.out hs).out).mono ?_
  rintro en w2 ⟨t1, s2, e2, rfl, ht1, k2, h2, hs2, r1⟩
  have HI2 := hid h2
  have HR2 := hid (HR1.out.keep k2 NR.out)
  have HK2 := hid (HK1.out.trans k2)
  have R1 := hid r1
  have ht1' : t1.size ≤ 65536 := by omega
  have hs2' : s2.size ≤ 65536 := by omega
  clear k2 h2 r1 ht1 HI1 HR1 HK1 hs2
  go_wp2_with fail
  refine ((HGf _ _ (ToE.out _ HK2.out) ht1').out).mono ?_
  rintro en w3 ⟨sf, lf, z1, rfl, hrf, hgf, x3, hbf⟩
  have HI3 := hid (HI2.out.ext x3)
  have HR3 := hid (HR2.out.ext x3)
  have HK3 := hid (HK2.out.ext x3)
  have HF3 := hid hrf
  have HGF := hid hgf
  have BF := hid hbf
  clear hrf hgf hbf x3 HI2 HR2 HK2 ht1' HGf
  go_wp2_with fail
  refine ((HT _ _ _ _ HI3.out hs2').out).mono ?_
  rintro en w4 ⟨t2, s3, e3, rfl, ht2, k4, h4, hs3, r2⟩
  have HI4 := hid h4
  have HR4 := hid (HR3.out.keep k4 NR.out)
  have HK4 := hid (HK3.out.trans k4)
  have HF4 : Hid (RowT w4 130 3 sf lf.length (lf.map ClauseI.cells).flatten) := ownsRow_keep HF3.out k4 (fun g hg hq => row_apart HF3.out HI3.out (by decide) (by rw [← hq]; exact hg))
  have R2 := hid r2
  have ht2' : t2.size ≤ 65536 := by omega
  have hs3' : s3.size ≤ 65536 := by omega
  clear k4 h4 r2 ht2 HI3 HR3 HK3 HF3 hs3 hs2'
  go_wp2_with fail
  refine ((HGv _ _ ht2').out).mono ?_
  rintro en w5 ⟨v, z2, rfl, hvl, hv64, x5, hbv⟩
  have X5 := hid (x5.trans (Ext.alloc w5 (.cells (vecV v) 44)))
  have HI5 := hid (HI4.out.ext X5.out)
  have HR5 := hid (HR4.out.ext X5.out)
  have HK5 := hid (HK4.out.ext X5.out)
  have HF5 : Hid (RowT _ 130 3 sf lf.length (lf.map ClauseI.cells).flatten) := ownsRow_ext HF4.out X5.out
  have HV5 := hid (Blk.new w5 44 (vecV v))
  have NV : Hid (¬ w5.heap.size = q) := by have := (HI4.out.ext x5).lt; unfold Hid; omega
  have NG : Hid (¬ w5.heap.size = w.heap.size) := by have := (HR4.out.ext x5).lt; unfold Hid; omega
  have BV := hid hbv
  have hz1 := hid (vecV_size65 hvl)
  have hvl := hid hvl
  have hv64 := hid hv64
  clear hbv x5 X5 HI4 HR4 HK4 HF4 ht2' HGv
  go_wp2_with fail
  have HB3 := hid (Blk.new w5 44 (vecV vec0))
  simp only [Tryz.sizeOf44, Result.andThen, ↓reduceIte, run_storeCells_blk HB3.out (by rw [hz1.out]; exact vec_size) (by rw [hz1.out, (vecV_size65 vec0_len)]) (vecV_one _), hz1.out]
  rw [Oper.upon_skip]
  rw [World.setRow_alloc_new]
  clear HB3
  go_wp2_with fail
  generalize w5.alloc (.cells (vecV v) 44) = w6 at HI5 HR5 HK5 HF5 HV5 ⊢
  obtain ⟨gv, hgv⟩ : ∃ gv, w5.heap.size = gv := ⟨_, rfl⟩
  rw [hgv] at NV NG HV5 ⊢
  clear hgv
  refine ((HT _ _ _ _ HI5.out hs3').out).mono ?_
  rintro en w7 ⟨t3, s4, e4, rfl, ht3, k7, h7, hs4, r3⟩
  have HI7 := hid h7
  have HR7 := hid (HR5.out.keep k7 NR.out)
  have HV7 := hid (HV5.out.keep k7 NV.out)
  have HK7 := hid (HK5.out.trans k7)
  have HF7 : Hid (RowT w7 130 3 sf lf.length (lf.map ClauseI.cells).flatten) := ownsRow_keep HF5.out k7 (fun g hg hq => row_apart HF5.out HI5.out (by decide) (by rw [← hq]; exact hg))
  have R3 := hid r3
  have ht3' : t3.size ≤ 65536 := by omega
  clear k7 h7 r3 ht3 HI5 HR5 HK5 HF5 HV5 hs4 hs3' hs
  go_wp2_with fail
  refine ((HGi _ _ ht3').out).mono ?_
  rintro en w8 ⟨sn, ln, z3, rfl, hrn, hgn, hln, x8, hbn⟩
  have HI8 := hid (HI7.out.ext x8)
  have HR8 := hid (HR7.out.ext x8)
  have HV8 := hid (HV7.out.ext x8)
  have HK8 := hid (HK7.out.ext x8)
  have HF8 : Hid (RowT w8 130 3 sf lf.length (lf.map ClauseI.cells).flatten) := ownsRow_ext HF7.out x8
  have HN8 := hid hrn
  have HGN := hid hgn
  have HLN := hid hln
  have BN := hid hbn
  clear hrn hgn hln hbn x8 HI7 HR7 HV7 HK7 HF7 ht3' HGi HT
  have hbld := frag_built (FragC.mk sf v sn hvl.out)
  dsimp only at hbld
  have hzA := hid (fragC_arr (FragC.mk sf v sn hvl.out))
  have hoA := hid (fragC_oneA (FragC.mk sf v sn hvl.out))
  obtain ⟨X, hX⟩ : ∃ X, vecV v = X := ⟨_, rfl⟩
  rw [hX] at hbld HV8 hz1 ⊢
  have HXe := hid hX
  clear hX
  obtain ⟨arr, hA⟩ : ∃ arr, (FragC.mk sf v sn hvl.out).arr = arr := ⟨_, rfl⟩
  rw [hA] at hbld hzA hoA
  have HAe := hid hA
  clear hA
  go_wp2_with fail
  have hsZ : Hid (fragZ.size = arr.size) := by unfold Hid; rw [hzA.out]; exact fragZ_size
  have NI : Hid (¬ q = w.heap.size) := fun h => NR.out h.symm
  have HIk : ∀ wc, facSt w8 w.heap.size 79 arr wc → InAt wc q s4 e4 := fun wc hc => Blk.keep HI8.out hc.1 NI.out
  refine wp_region_laste (relSt w.heap.size 79 arr) (facSt w8 w.heap.size 79 arr) (pre := ?pre1) (z := ?z1) ?hpre1 ?hz1 (facSt.steady _ _ _ _) (facSt.start HR8.out hsZ.out) (by kernel_rfl) (by kernel_rfl) (by kernel_rfl) (by kernel_rfl) ?_
  case hpre1 => (simp only [List.dropLast_cons_cons, List.dropLast_singleton]; first | done | exact rfl)
  case hz1 => (simp only [List.getLast?_cons_cons, List.getLast?_singleton]; first | done | exact rfl)
  repeat (first
    | (refine AWe.valE rfl rfl rfl rfl ?_; apply Exists.intro; refine And.intro (fun wc hc => gives_build _ _ _ rfl (by simp only [List.map_toArray, List.map_cons, List.map_nil]; exact hbld) ⟨rfl, rfl⟩) ?_; simp only [Act.put, List.setIfInBounds_toArray, List.set_cons_succ, List.set_cons_zero])
    | (refine AWe.valE rfl rfl rfl rfl ?_; apply Exists.intro; refine And.intro (fun wc hc => gives_load rfl rfl (vec_loadVar hz1.out (fun j v hv => by rw [Nat.zero_add]; exact (HV8.out.keep hc.1 NG.out).cell hv))) ?_; simp only [Act.put, List.setIfInBounds_toArray, List.set_cons_succ, List.set_cons_zero])
    | (refine AWe.valE rfl rfl rfl rfl ?_; apply Exists.intro; refine And.intro (fun wc hc => ?_) ?_; (· (clear hc; go_simp; dsimp only [Gives]; exact ⟨rfl, rfl⟩)); simp only [Act.put, List.setIfInBounds_toArray, List.set_cons_succ, List.set_cons_zero])
    | (refine AWe.call rfl Tryz.func108 (by kernel_rfl) (by kernel_rfl) rfl rfl ?_; apply Exists.intro; refine And.intro (fun wc hc => ?_) ?_; (· (simp only [argsOf, anyAt, ↓reduceIte, Nat.reduceEqDiff, Array.getD_eq_getD_getElem?, List.getElem?_toArray, List.getElem?_cons_succ, List.getElem?_cons_zero, Option.getD_some]; with_reducible exact (HEnd _ _ _ _ (HIk _ hc)).out)); simp only [Act.put, List.setIfInBounds_toArray, List.set_cons_succ, List.set_cons_zero])
    | (refine AWe.eff (fun W => Blk W w.heap.size 79 arr) (blk_steady _ _ _) rfl rfl rfl rfl (fun wc hc => ?_) ?_; (· (obtain ⟨c9, hc9, hs9⟩ := hc.2; exact gives_store rfl rfl rfl hc9 (by rw [hzA.out]; exact frag_size) hs9 hoA.out (stored hc9 hs9)))))
  refine AWe.last rfl rfl rfl (fun w9 x9 hfin => ?_)
  simp only [closeAny, Act.put, List.setIfInBounds_toArray, List.set_cons_succ, List.set_cons_zero]
  have HFin := hid hfin.2
  have HK9 := hid x9.1
  clear hfin x9
  go_wp2_with fail
  refine bodyPost_ret (results_cell_row_tmp rfl _ _ w.heap.size 79 _ (0, 0) _ rfl HFin.out Tryz.underlying79 rfl (by rw [hzA.out]; exact frag_size)) rfl ?_
  have HF9 : RowT w9 130 3 sf lf.length (lf.map ClauseI.cells).flatten := ownsRow_keep HF8.out HK9.out (fun g hg hq => row_apart HF8.out HR8.out (by decide) (by rw [← hq]; exact hg))
  have HN9 : RowT w9 60 2 sn ln.length (ln.map Ver.cells).flatten := ownsRow_keep HN8.out HK9.out (fun g hg hq => row_apart HN8.out HR8.out (by decide) (by rw [← hq]; exact hg))
  have hE9 : Ext w w9 := by
    have k1 : Keep (fun g => g = q ∨ g = w.heap.size) w w8 := HK8.out.mono fun g hg => .inl hg
    have k2 : Keep (fun g => g = q ∨ g = w.heap.size) w8 w9 := HK9.out.mono fun g hg => .inr hg
    exact Ext.of_below ((k1.trans k2).below (Nat.le_refl _) fun k hk => by have := HQ.out; omega)
  refine ⟨⟨sf, v, sn, hvl.out⟩, ⟨lf, v, ln⟩, max4 z1 z2 z3 (endK s4 e4), by rw [← HAe.out]; rfl, ⟨rfl, HF9, HN9⟩, ⟨⟨hv64.out, fun y hy => ver64_ok (HGN.out y hy), by have := HLN.out; show ln.length ≤ 90000; omega⟩, HGF.out⟩, hE9, fun x0 a0 a1 a2 a3 => ?_⟩
  obtain ⟨b1, b2, b3, b4⟩ := frag_back R1.out R2.out R3.out x0 a3
  unfold mayF at a2
  simp only [Bool.and_eq_true, decide_eq_true_eq] at a2
  obtain ⟨rfl, rfl⟩ := BF.out x0.f a2.1 b1
  obtain ⟨rfl, rfl⟩ := BV.out x0.v a0 a1.v a2.2.1 b2
  obtain ⟨rfl, rfl⟩ := BN.out x0.n a1.n a1.l a2.2.2 b3
  refine ⟨rfl, ?_⟩
  rw [b4]; rfl
theorem known_set (x : Ver) (v : List Int) (hv : v.length = 65) : (((KnownI.mk x vec0 vec0_len).arr.toList.take 2 ++ ((vecV v).toList ++ (KnownI.mk x vec0 vec0_len).arr.toList.drop (2 + (vecV v).toList.length))).toArray) = (KnownI.mk x v hv).arr := by
  have hl : (vecV v).toList = intsV v := by simp [vecV, intsV]
  have h0 : (intsV vec0).length = 65 := by rw [intsV_len]; exact vec0_len
  have h1 : (intsV v).length = 65 := by rw [intsV_len]; exact hv
  rw [hl, h1]
  unfold KnownI.arr KnownI.list
  apply Array.ext'
  simp only [List.cons_append, List.nil_append, List.take_succ_cons, List.take_zero, show 2 + 65 = 65 + 1 + 1 from rfl, List.drop_succ_cons]
  rw [List.drop_of_length_le (by omega), List.append_nil]
set_option maxRecDepth 100000 in
set_option maxHeartbeats 8000000 in
theorem getKnown_c (w : World) (s : ByteArray) (hs : s.size ≤ 65536) : Calls Tryz.prog 58 #[.string s] w (fun en w' => ∃ (x : KnownI) (e : Int), en = .returned (.tuple #[.agg x.arr, .int .i64 e]) ∧ KnownOk x ∧ Ext w w' ∧ ∀ x0 : KnownI, KnownOk x0 → mayN x0 = true → s = knownB x0 → x = x0 ∧ e = 0) := by
  have HO := fun W => hid (over_c W s)
  have HT := fun W q (s' : ByteArray) (e' : Int) (h' : InAt W q s' e') (hs' : s'.size ≤ 65536) => hid (t_c W q s' e' h' (by omega))
  have HVr := fun W q (s' : ByteArray) (e' : Int) (h' : InAt W q s' e') (hs' : s'.size ≤ 65536) => hid (getVer_c W q s' e' h' (by omega))
  have HEnd := fun W q (s' : ByteArray) (e' : Int) (h' : InAt W q s' e') => hid (end_c W q s' e' h')
  have HGv := fun W t (ht : t.size ≤ 65536) => hid (getVo_c W t ht)
  have HR0 := hid (Blk.new w 93 knownZ)
  have HE0 := hid (Ext.alloc w (.cells knownZ 93))
  go_enter Tryz.func58, Tryz.ntmps58
  go_wp2_with fail
  refine ((HO _).out).mono ?_
  rintro en w1 ⟨v, rfl, ⟨q, rfl, hq, hI⟩, x1⟩
  have HI1 := hid hI
  have HR1 := hid (HR0.out.ext x1)
  have HE1 := hid (HE0.out.trans x1)
  rw [World.size_alloc] at hq
  have NR : Hid (¬ w.heap.size = q) := by unfold Hid; omega
  have HQ := hid hq
  clear hI x1 hq HR0 HE0 HO
  have HK1 := hid (Keep.of_ext (S := fun g => g = q) HE1.out)
  clear HE1
  go_wp2_with fail
  refine ((HVr _ _ _ _ HI1.out hs).out).mono ?_
  rintro en w2 ⟨z1, z2, s2, e2, rfl, hz1, hz2, k2, h2, hs2, r1⟩
  have Z1 := hid hz1
  have Z2 := hid hz2
  have R1 := hid r1
  have hs2' : s2.size ≤ 65536 := by omega
  have he0 : (knownZ.setIfInBounds 0 (.int .i64 z1)).setIfInBounds 1 (.int .i64 z2) = (KnownI.mk ⟨z1, z2⟩ vec0 vec0_len).arr := by kernel_rfl
  have hkz : ¬ knownZ.size < 2 := by rw [knownZ_size]; decide
  have hso := fun W => Tryz.sizeOf44 W
  have hk1 := hid (known_arr (KnownI.mk ⟨z1, z2⟩ vec0 vec0_len))
  have ho1 := hid (known_oneA (KnownI.mk ⟨z1, z2⟩ vec0 vec0_len))
  have hst := hid (fun v hv => known_set ⟨z1, z2⟩ v hv)
  generalize (KnownI.mk ⟨z1, z2⟩ vec0 vec0_len).arr = arr0 at he0 hk1 ho1 hst
  have X2 := hid (Ext.alloc w2 (.cells arr0 93))
  have HI2 := hid (h2.ext X2.out)
  have HR2 := hid ((HR1.out.keep k2 NR.out).ext X2.out)
  have HK2 := hid ((HK1.out.trans k2).ext X2.out)
  have HU2 := hid (Blk.new w2 93 arr0)
  have NU : Hid (¬ w2.heap.size = q) := by have := h2.lt; unfold Hid; omega
  have NUR : Hid (¬ w2.heap.size = w.heap.size) := by have := (HR1.out.keep k2 NR.out).lt; unfold Hid; omega
  have GU : Hid (w.heap.size ≤ w2.heap.size) := (HK1.out.trans k2).size
  clear hz1 hz2 k2 h2 r1 hs2 HI1 HR1 HK1 X2 HVr
  go_wp2_with fail
  clear he0 hkz hso
  have HB3 := hid (Blk.new w2 93 knownZ)
  simp only [Tryz.sizeOf93, Result.andThen, ↓reduceIte, run_storeCells_blk HB3.out (by rw [hk1.out]; exact known_size) (by rw [hk1.out, knownZ_size]) ho1.out, hk1.out]
  rw [Oper.upon_skip]
  rw [World.setRow_alloc_new]
  clear HB3
  go_wp2_with fail
  generalize w2.alloc (.cells arr0 93) = w3 at HI2 HR2 HU2 HK2 ⊢
  obtain ⟨g, hg⟩ : ∃ g, w2.heap.size = g := ⟨_, rfl⟩
  rw [hg] at NU NUR GU HU2 ⊢
  clear hg
  refine ((HT _ _ _ _ HI2.out hs2').out).mono ?_
  rintro en w4 ⟨t, s3, e3, rfl, ht, k4, h4, hs3, r2⟩
  have HI4 := hid h4
  have HR4 := hid (HR2.out.keep k4 NR.out)
  have HU4 := hid (HU2.out.keep k4 NU.out)
  have HK4 := hid (HK2.out.trans k4)
  have R2 := hid r2
  have ht' : t.size ≤ 65536 := by omega
  clear k4 h4 r2 ht hs3 HI2 HR2 HU2 HK2 HT
  go_wp2_with fail
  refine ((HGv _ _ ht').out).mono ?_
  rintro en w5 ⟨v, z3, rfl, hvl, hv64, x5, hbv⟩
  have X5 := hid (x5.trans (Ext.alloc w5 (.cells (vecV v) 44)))
  have HI5 := hid (HI4.out.ext X5.out)
  have HR5 := hid (HR4.out.ext X5.out)
  have HU5 := hid (HU4.out.ext X5.out)
  have HK5 := hid (HK4.out.ext X5.out)
  have HV5 := hid (Blk.new w5 44 (vecV v))
  have BV := hid hbv
  have hz1 := hid (vecV_size65 hvl)
  have HVl := hid hvl
  have HV64 := hid hv64
  have hle : Hid (2 + (vecV v).toList.length ≤ arr0.size) := by unfold Hid; rw [Array.length_toList, hz1.out, hk1.out]; decide
  have h1V : Hid (∀ u ∈ (vecV v).toList, u.oneCell' = true) := by
    intro u hu
    have := Array.all_eq_true_iff_forall_mem.1 (vecV_one v) u (Array.mem_toList_iff.1 hu)
    exact this
  have hst := hid (hst.out v HVl.out)
  clear hbv x5 X5 HI4 HR4 HU4 HK4 ht' HGv hvl hv64 ho1
  go_wp2_with fail
  have HB3 := hid (Blk.new w5 44 (vecV vec0))
  simp only [Tryz.sizeOf44, Result.andThen, ↓reduceIte, run_storeCells_blk HB3.out (by rw [hz1.out]; exact vec_size) (by rw [hz1.out, (vecV_size65 vec0_len)]) (vecV_one _), hz1.out]
  rw [Oper.upon_skip]
  rw [World.setRow_alloc_new]
  clear HB3
  go_wp2_with fail
  generalize w5.alloc (.cells (vecV v) 44) = w6 at HI5 HR5 HK5 HU5 HV5 ⊢
  generalize w5.heap.size = gv at HV5 ⊢
  simp only [Tryz.isAgg44, Tryz.sizeOf44, Result.andThen, ↓reduceIte, run_loadCells_blk HV5.out 65 hz1.out]
  rw [Oper.upon_value]
  go_wp2_with fail
  simp only [Tryz.sizeOf44, Result.andThen]
  rw [if_neg (show ¬ (65 : Nat) = 0 by omega)]
  dsimp only
  rw [Oper.upon_value]
  go_wp2_with fail
  simp only [Tryz.sizeOf44, Result.andThen, ↓reduceIte, hz1.out, run_storeCells_mid HU5.out hle.out h1V.out]
  rw [Oper.upon_skip]
  have HU6 := hid (HU5.out.setCells (vecV v).toList 2 hle.out)
  rw [hst.out] at HU6
  have kS := Keep.setCells (S := fun q => q = g) (.inl rfl) (vecV v).toList (Keep.refl _ w6) 2
  have HI6 := hid (show InAt (w6.setCells g 2 (vecV v).toList) q s3 e3 from Blk.keep HI5.out kS (fun h => NU.out h.symm))
  have HR6 := hid (HR5.out.keep kS (fun h => NUR.out h.symm))
  have HK6 : Hid (Keep (fun k => k = q ∨ k = g) w (w6.setCells g 2 (vecV v).toList)) := by
    have k1 : Keep (fun k => k = q ∨ k = g) w w6 := HK5.out.mono fun k hk => .inl hk
    exact k1.trans (kS.mono fun k hk => .inr hk)
  have hkA := hid (known_arr (KnownI.mk ⟨z1, z2⟩ v HVl.out))
  have hoA := hid (known_oneA (KnownI.mk ⟨z1, z2⟩ v HVl.out))
  obtain ⟨arr, hA⟩ : ∃ arr, (KnownI.mk ⟨z1, z2⟩ v HVl.out).arr = arr := ⟨_, rfl⟩
  rw [hA] at hkA hoA HU6
  have HAe := hid hA
  clear hA kS HU5 HV5 HI5 HR5 HK5 hst hle h1V
  generalize w6.setCells g 2 (vecV v).toList = w8 at HU6 HI6 HR6 HK6 ⊢
  go_wp2_with fail
  have hsZ : Hid (knownZ.size = arr.size) := by unfold Hid; rw [hkA.out]; exact knownZ_size
  have HIk : ∀ wc, facSt w8 w.heap.size 93 arr wc → InAt wc q s3 e3 := fun wc hc => Blk.keep HI6.out hc.1 (fun h => NR.out h.symm)
  refine wp_region_laste (relSt w.heap.size 93 arr) (facSt w8 w.heap.size 93 arr) (pre := ?pre1) (z := ?z1) ?hpre1 ?hz1 (facSt.steady _ _ _ _) (facSt.start HR6.out hsZ.out) (by kernel_rfl) (by kernel_rfl) (by kernel_rfl) (by kernel_rfl) ?_
  case hpre1 => (simp only [List.dropLast_cons_cons, List.dropLast_singleton]; first | done | exact rfl)
  case hz1 => (simp only [List.getLast?_cons_cons, List.getLast?_singleton]; first | done | exact rfl)
  repeat (first
    | (refine AWe.valE rfl rfl rfl rfl ?_; apply Exists.intro; refine And.intro (fun wc hc => gives_load rfl rfl (known_loadVar hkA.out (fun j v hv => by rw [Nat.zero_add]; exact (HU6.out.keep hc.1 NUR.out).cell hv))) ?_; simp only [Act.put, List.setIfInBounds_toArray, List.set_cons_succ, List.set_cons_zero])
    | (refine AWe.valE rfl rfl rfl rfl ?_; apply Exists.intro; refine And.intro (fun wc hc => ?_) ?_; (· (clear hc; go_simp; dsimp only [Gives]; exact ⟨rfl, rfl⟩)); simp only [Act.put, List.setIfInBounds_toArray, List.set_cons_succ, List.set_cons_zero])
    | (refine AWe.call rfl Tryz.func108 (by kernel_rfl) (by kernel_rfl) rfl rfl ?_; apply Exists.intro; refine And.intro (fun wc hc => ?_) ?_; (· (simp only [argsOf, anyAt, ↓reduceIte, Nat.reduceEqDiff, Array.getD_eq_getD_getElem?, List.getElem?_toArray, List.getElem?_cons_succ, List.getElem?_cons_zero, Option.getD_some]; with_reducible exact (HEnd _ _ _ _ (HIk _ hc)).out)); simp only [Act.put, List.setIfInBounds_toArray, List.set_cons_succ, List.set_cons_zero])
    | (refine AWe.eff (fun W => Blk W w.heap.size 93 arr) (blk_steady _ _ _) rfl rfl rfl rfl (fun wc hc => ?_) ?_; (· (obtain ⟨c9, hc9, hs9⟩ := hc.2; exact gives_store rfl rfl rfl hc9 (by rw [hkA.out]; exact known_size) hs9 hoA.out (stored hc9 hs9)))))
  refine AWe.last rfl rfl rfl (fun w9 x9 hfin => ?_)
  simp only [closeAny, Act.put, List.setIfInBounds_toArray, List.set_cons_succ, List.set_cons_zero]
  have HFin := hid hfin.2
  have HK9 := hid x9.1
  clear hfin x9
  go_wp2_with fail
  refine bodyPost_ret (results_cell_row_tmp rfl _ _ w.heap.size 93 _ (0, 0) _ rfl HFin.out Tryz.underlying93 rfl (by rw [hkA.out]; exact known_size)) rfl ?_
  have hE9 : Ext w w9 := by
    have k1 : Keep (fun k => (k = q ∨ k = g) ∨ k = w.heap.size) w w8 := HK6.out.mono fun k hk => .inl hk
    have k2 : Keep (fun k => (k = q ∨ k = g) ∨ k = w.heap.size) w8 w9 := HK9.out.mono fun k hk => .inr hk
    exact Ext.of_below ((k1.trans k2).below (Nat.le_refl _) fun k hk => by have := HQ.out; have := GU.out; omega)
  refine ⟨⟨⟨z1, z2⟩, v, HVl.out⟩, _, by rw [← HAe.out]; rfl, ⟨HV64.out, ?_⟩, hE9, fun x0 a1 a2 a3 => ?_⟩
  · have := Z1.out; have := Z2.out
    unfold ver64 in64
    dsimp only
    omega
  · obtain ⟨b0, b0'⟩ := mayN_ok a1 a2
    obtain ⟨b1, b2, b3⟩ := known_back R1.out R2.out x0 b0 a3
    obtain ⟨rfl, rfl⟩ := BV.out x0.v x0.hv a1.v b0' b2
    refine ⟨known_eq.2 ⟨b1, rfl⟩, ?_⟩
    rw [b3]; rfl
end Go.Proofs.YtmbgakjkhgdjnaaGreatDoor
namespace Go.Proofs.YtmbgakjkhgdjnaaGreatDoor
set_option linter.unusedSimpArgs false
set_option linter.unusedVariables false
open Go.RowKit

theorem frag_info : (Tryz.prog.info? 79).map (fun i => (i.zero, i.size, i.bytes)) = some (some (.agg fragZ), 67, 568) := by kernel_rfl
theorem frag_elem : Elem Tryz.prog 22 79 67 568 := by
  obtain ⟨i0, h0, h1, h2, h3⟩ := info_parts frag_info
  exact ⟨Tryz.underlying22, i0, _, h0, h1, h2, h3, fragZ_size⟩
theorem known_info : (Tryz.prog.info? 93).map (fun i => (i.zero, i.size, i.bytes)) = some (some (.agg knownZ), 67, 536) := by kernel_rfl
theorem known_elem : Elem Tryz.prog 23 93 67 536 := by
  obtain ⟨i0, h0, h1, h2, h3⟩ := info_parts known_info
  exact ⟨Tryz.underlying23, i0, _, h0, h1, h2, h3, knownZ_size⟩
theorem build_frag (w : World) (p : Array Value) (hp : p.size = 67) : (Instr.buildSlice 22 1 #[(0, .agg p)]).run Tryz.prog w = .ok (.slice (some ⟨w.heap.size, 0, none⟩) 1 1) (w.alloc (.cells p 79)) := by
  have := run_build_rows frag_elem w [p] (fun x hx => by rw [List.mem_singleton.1 hx]; exact hp) (by omega) (by simp) (by simp) #[(0, .agg p)] rfl
  simpa using this
theorem build_known (w : World) (p : Array Value) (hp : p.size = 67) : (Instr.buildSlice 23 1 #[(0, .agg p)]).run Tryz.prog w = .ok (.slice (some ⟨w.heap.size, 0, none⟩) 1 1) (w.alloc (.cells p 93)) := by
  have := run_build_rows known_elem w [p] (fun x hx => by rw [List.mem_singleton.1 hx]; exact hp) (by omega) (by simp) (by simp) #[(0, .agg p)] rfl
  simpa using this
/-- A row of one element is laid, in a region of the text's order. -/
theorem wpList_bs {P : Program} {ops : Array Oper} {rest : List Oper} {o : Oper} {a : Act} {Q : Exit → Act → World → Prop} {w w' : World} (hgd : o.guard = none) (t : TypeId) (x : Operand) (ho : o.op = .buildSlice t 1 #[(0, x)]) {arr : Array Value} {v : Value} (hx : a.eval x = .agg arr)
    (hrun : (Instr.buildSlice t 1 #[(0, .agg arr)]).run P w = .ok v w') (hK : wpList P ops Q rest (a.put o.dst v) w') : wpList P ops Q (o :: rest) a w := by
  refine wpList_plain hgd fun K hK' => ?_
  unfold Oper.wp
  simp [execOp, ho, hx, hrun, Result.andThen]
  exact hK' _ _ hK
def FragP.list (z : FragC × FragI) : List Value := z.1.list
theorem fragP_coded : Coded FragP.list 67 := ⟨fun z => fragC_len z.1, fun z => fragC_oneL z.1⟩
attribute [-simp] Tryz.isAgg79 Tryz.sizeOf79 Tryz.isAgg93 Tryz.sizeOf93
set_option maxRecDepth 100000 in
set_option maxHeartbeats 8000000 in
theorem partsFr_c (w : World) (s : ByteArray) (hs : s.size ≤ 65536) (enc : FragI → ByteArray) (ok : FragI → Prop) (hone : ∀ W t, t.size ≤ s.size → Ext w W → Calls Tryz.prog 56 #[.string t] W (fun en w' => ∃ (z : (FragC × FragI)) (e : Int), en = .returned (.tuple #[.agg z.1.arr, .int .i64 e]) ∧ FragO w' z.1 z.2 ∧ FragG z.2 ∧ Ext W w' ∧ ∀ x0, ok x0 → t = enc x0 → z.2 = x0 ∧ e = 0)) : Calls Tryz.prog 54 #[.string s, .func (.func 56) #[] #[]] w (fun en w' => ∃ (v : Value) (b : Bool) (l : List (FragC × FragI)), en = .returned (.tuple #[v, .bool b]) ∧ w'.ownsRow w.heap.size 79 67 v l.length (l.map FragP.list).flatten ∧ (∀ z ∈ l, FragO w' z.1 z.2) ∧ (∀ z ∈ l, FragG z.2) ∧ l.length ≤ s.size ∧ Ext w w' ∧ ∀ l0 : List FragI, (∀ x ∈ l0, ok x) → l0.length ≤ 90000 → s = listB enc l0 → l.map (fun z => z.2) = l0) := by
  have HO := fun W => hid (over_c W s)
  have HN := fun W q (h' : InAt W q s 0) => hid (n_c W q s 0 h' (by omega))
  have HT := fun W q (s' : ByteArray) (e' : Int) (h' : InAt W q s' e') (hs' : s'.size ≤ s.size) => hid (t_c W q s' e' h' (by omega))
  have HEnd := fun W q (s' : ByteArray) (e' : Int) (h' : InAt W q s' e') => hid (end_c W q s' e' h')
  have HOne := hid hone
  clear hone
  go_enter Tryz.func54, Tryz.ntmps54
  go_wp2_with fail
  refine ((HO _).out).mono ?_
  rintro en w1 ⟨v, rfl, ⟨q, rfl, hq, hI⟩, x1⟩
  have HI1 := hid hI
  have HE1 := hid x1
  have HQ := hid hq
  clear hI x1 hq HO
  go_wp2_with fail
  refine ((HN _ _ HI1.out).out).mono ?_
  rintro en w2 ⟨n, s2, e2, rfl, hn, k2, h2, hs2, r2⟩
  have HI2 := hid h2
  have HE2 : Hid (Ext w w2) := Ext.of_below (((Keep.of_ext (S := fun g => g = q) HE1.out).trans k2).below (Nat.le_refl _) fun k hk => by have := HQ.out; omega)
  have HS2 := hid hs2
  have HB : Hid (∀ l0 : List FragI, s = listB enc l0 → l0.length ≤ 90000 → n = l0.length ∧ l0.length ≤ s.size ∧ s2.data.toList = encL (l0.map (fun x => fT (enc x))) ∧ e2 = 0) := fun l0 a0 a1 => by
    have a2 : s.data.toList = lebL l0.length ++ encL (l0.map (fun x => fT (enc x))) := by
      rw [a0]
      show encL (fN l0.length :: l0.map (fun x => fT (enc x))) = _
      rw [encL_cons]; rfl
    obtain ⟨b1, b2, b3⟩ := r2 l0.length _ rfl (by omega) a2
    refine ⟨b1, ?_, b2, b3⟩
    have c1 : s.data.toList.length = s.size := by rw [Array.length_toList]; rfl
    rw [a2, List.length_append] at c1
    have := encT_ge enc l0
    omega
  clear k2 h2 r2 hs2 HI1 HE1 HN
  by_cases hbig : (s.size : Int) < n
  · have d0 : decide ((s.size : Int) < n) = true := decide_eq_true hbig
    have d0' : decide (s.size < n) = true := decide_eq_true (by omega)
    have HD : Hid (∀ l0 : List FragI, (∀ x ∈ l0, ok x) → l0.length ≤ 90000 → s = listB enc l0 → [] = l0) := fun l0 _ a1 a2 => by
      obtain ⟨b1, b2, _⟩ := HB.out l0 a2 a1
      exfalso; omega
    clear hbig HB HT HEnd HOne
    go_wp2_with fail
    go_ret2
    exact ⟨_, _, [], rfl, ownsRow_nil _ _ _ _, fun x hx => (by cases hx), fun x hx => (by cases hx), Nat.zero_le _, HE2.out, HD.out⟩
  · have d0 : decide ((s.size : Int) < n) = false := decide_eq_false hbig
    have d0' : decide (s.size < n) = false := decide_eq_false (by omega)
    have hn9 : n ≤ s.size := by omega
    clear hbig hn
    go_wp2_with fail
    go_loopw [8, 20] (fun s8 s20 wr => ∃ (k : Nat) (ov : Value) (l : List (FragC × FragI)) (s' : ByteArray) (e' : Int), ov = s8 ∧ k ≤ n ∧ s20 = .int .i64 k ∧ l.length = k ∧ Hid (Ext w wr) ∧ Hid (InAt wr q s' e') ∧ Hid (s'.size ≤ s.size) ∧ Hid (∀ z ∈ l, FragG z.2) ∧ Hid (∀ z ∈ l, FragO wr z.1 z.2) ∧ Hid (wr.ownsRow (q + 1) 79 67 s8 l.length (l.map FragP.list).flatten) ∧ Hid (∀ l0 : List FragI, (∀ x ∈ l0, ok x) → s = listB enc l0 → l0.length ≤ 90000 → n = l0.length ∧ l.map (fun z => z.2) = l0.take k ∧ s'.data.toList = encL ((l0.drop k).map (fun x => fT (enc x))) ∧ e' = 0)) (fun _ s20 _ => n - (intOf s20).toNat)
    case atStart => exact ⟨0, _, [], s2, e2, rfl, by omega, rfl, rfl, HE2, HI2, HS2, fun x hx => (by cases hx), fun x hx => (by cases hx), ownsRow_nil _ _ _ _, fun l0 a0 a1 a2 => by
      obtain ⟨b1, b2, b3, b4⟩ := HB.out l0 a1 a2
      exact ⟨b1, rfl, b3, b4⟩⟩
    case round =>
      obtain ⟨k, s8, l, s', e', rfl, hk, rfl, hlen, hE, hI, hS, hG, hW, hO, hB⟩ := hrel
      clear HE2 HI2 HS2 HB
      by_cases hlt : k < n
      · have d1 : decide ((k : Int) < n) = true := decide_eq_true (by omega)
        have d1' : decide (k < n) = true := decide_eq_true hlt
        have hn9' := hid hn9
        have hln := hid hlen
        have hlt' := hid hlt
        clear hlen hlt
        go_wp2_with fail
        refine ((HT _ _ _ _ hI.out hS.out).out).mono ?_
        rintro en w3 ⟨t, s3, e3, rfl, ht, k3, h3, hs3, r3⟩
        have hI3 := hid h3
        have hE3 : Hid (Ext w w3) := Ext.of_below (((Keep.of_ext (S := fun g => g = q) hE.out).trans k3).below (Nat.le_refl _) fun k hk => by have := HQ.out; omega)
        have hO3 : Hid (w3.ownsRow (q + 1) 79 67 s8 l.length (l.map FragP.list).flatten) := row_keep hO.out k3 (fun g hg => by omega)
        have hW3 : Hid (∀ z ∈ l, FragO w3 z.1 z.2) := fun z hz => (hW.out z hz).keepBlk hI.out (by decide) (by decide) k3
        have hS3 : Hid (s3.size ≤ s.size) := by have := hS.out; unfold Hid; omega
        have HCall := HOne.out w3 t (by have := hS.out; omega) hE3.out
        have R3 := hid r3
        clear k3 h3 hs3 r3 ht hI hE hO hS hW
        go_wp2_with fail
        refine HCall.mono ?_
        rintro en w4 ⟨x, e, rfl, hx4, hg, x4, hb⟩
        have hz := hid (fragC_arr x.1)
        have ho1 := hid (fragC_oneA x.1)
        have X4 := hid (x4.trans (Ext.alloc w4 (.cells x.1.arr 79)))
        have hI4 := hid (hI3.out.ext X4.out)
        have hE4 := hid (hE3.out.trans X4.out)
        have hO4 := hid (ownsRow_ext hO3.out X4.out)
        have hW4 : Hid (∀ z ∈ l ++ [x], FragO _ z.1 z.2) := fun z hz => by
          rcases List.mem_append.1 hz with hz | hz
          · exact ((hW3.out z hz)).ext X4.out
          · (try rw [List.mem_singleton.1 hz]); exact (hx4).ext (Ext.alloc w4 (.cells x.1.arr 79))
        have HU4 := hid (Blk.new w4 79 x.1.arr)
        have hB4 : Hid (∀ l0 : List FragI, (∀ x ∈ l0, ok x) → s = listB enc l0 → l0.length ≤ 90000 → e = 0 ∧ n = l0.length ∧ (l ++ [x]).map (fun z => z.2) = l0.take (k + 1) ∧ s3.data.toList = encL ((l0.drop (k + 1)).map (fun x => fT (enc x))) ∧ e3 = 0) := fun l0 a0 a1 a2 => by
          obtain ⟨b1, b2, b3, b4⟩ := hB.out l0 a0 a1 a2
          have hlt := hlt'.out
          have hkl : k < l0.length := by omega
          rw [List.drop_eq_getElem_cons hkl, List.map_cons, encL_cons] at b3
          have b3' : s'.data.toList = lebL (enc l0[k]).size ++ ((enc l0[k]).data.toList ++ encL ((l0.drop (k + 1)).map (fun x => fT (enc x)))) := by
            rw [b3]
            show (lebL (enc l0[k]).size ++ (enc l0[k]).data.toList) ++ _ = _
            rw [List.append_assoc]
          obtain ⟨c1, c2, c3⟩ := R3.out _ _ b4 b3'
          obtain ⟨f1, f2⟩ := hb l0[k] (a0 _ (List.getElem_mem hkl)) c1
          refine ⟨f2, b1, ?_, c2, c3⟩
          rw [List.take_succ_eq_append_getElem hkl, ← b2, List.map_append, ← f1]; rfl
        have hG4 : Hid (∀ z ∈ l ++ [x], FragG z.2) := fun y hy => by
          rcases List.mem_append.1 hy with hy | hy
          · exact hG.out y hy
          · rw [List.mem_singleton.1 hy]; exact hg
        have hbs := fun W => build_frag W x.1.arr hz.out
        have HAe : Hid ((FragP.list x).toArray = x.1.arr) := rfl
        obtain ⟨arr, harr⟩ : ∃ arr, x.1.arr = arr := ⟨_, rfl⟩
        rw [harr] at hz ho1 X4 hI4 hE4 hO4 HU4 hbs HAe ⊢
        try rw [harr] at hW4
        clear hb hB R3 hI3 hE3 hO3 HCall hg hG hW3 hx4 x4 harr
        go_wp2_with fail
        have HB3 := hid (Blk.new w4 79 fragZ)
        simp only [Tryz.sizeOf79, Result.andThen, ↓reduceIte, run_storeCells_blk HB3.out (by rw [hz.out]; exact frag_size) (by rw [hz.out, fragZ_size]) ho1.out, hz.out]
        rw [Oper.upon_skip]
        rw [World.setRow_alloc_new]
        clear HB3
        by_cases h0 : e = 0
        · have d2 : (e != 0) = false := by simp [h0]
          clear h0
          generalize w4.alloc (.cells arr 79) = w5 at X4 hI4 hE4 hO4 hW4 HU4 ⊢
          obtain ⟨v', w6, hrun6, ho6, hk6, _⟩ := app_one (P := Tryz.prog) frag_elem fragP_coded hO4.out (Nat.succ_le_of_lt hI4.out.lt) x (by have := hn9'.out; have := hln.out; omega) (by omega)
          rw [HAe.out] at hrun6
          have HE6 := hid (hk6.toExt hE4.out (fun g hg => Nat.le_trans HQ.out (Nat.le_of_lt (row_block hO4.out g hg).1)))
          have HI6 : Hid (InAt w6 q s3 e3) := Blk.keep hI4.out hk6 (fun h => by have := (row_block hO4.out q h).1; omega)
          have HW6 : Hid (∀ z ∈ l ++ [x], FragO w6 z.1 z.2) := fun z hz => (hW4.out z hz).keepRow hO4.out (by decide) (by decide) hk6
          have HO6 := hid ho6
          clear ho6 hk6 hI4 hE4 hO4 hW4 X4 ho1
          go_wp2_with fail
          simp only [Tryz.isAgg79, Tryz.sizeOf79, Result.andThen, ↓reduceIte, run_loadCells_blk HU4.out 67 hz.out]
          rw [Oper.upon_value]
          go_wp2_with (first | (at_builtin; refine wpList_app rfl (.tmp 31) (.tmp 33) _ _ rfl rfl rfl hrun6 ?_) | (refine wpList_bs rfl 22 (.tmp 32) rfl rfl (hbs _) ?_))
          go_roundw
          case rel => exact ⟨k + 1, _, l ++ [x], s3, e3, rfl, by have := hlt'.out; omega, by go_num, by rw [List.length_append, hln.out]; rfl, HE6, HI6, hS3, hG4, HW6, HO6, fun l0 a0 a1 a2 => (hB4.out l0 a0 a1 a2).2⟩
          case measure => simp [intOf]; have := hlt'.out; omega
        · have d2 : (e != 0) = true := by simp [h0]
          have HD : Hid (∀ l0 : List FragI, (∀ x ∈ l0, ok x) → l0.length ≤ 90000 → s = listB enc l0 → [] = l0) := fun l0 a0 a1 a2 => absurd (hB4.out l0 a0 a2 a1).1 h0
          clear h0 hB4 hI4 hO4 hG4 hW4 hbs
          go_wp2_with fail
          go_ret2
          exact ⟨_, _, [], rfl, ownsRow_nil _ _ _ _, fun x hx => (by cases hx), fun x hx => (by cases hx), Nat.zero_le _, hE4.out, HD.out⟩
      · obtain rfl : k = n := by omega
        have hO8 := hid (ownsRow_mono hO.out (Nat.le_succ_of_le HQ.out))
        have HD : Hid (∀ l0 : List FragI, (∀ x ∈ l0, ok x) → l0.length ≤ 90000 → s = listB enc l0 → l.map (fun z => z.2) = l0) := fun l0 a0 a1 a2 => by
          obtain ⟨b1, b2, _⟩ := hB.out l0 a0 a2 a1
          rw [b2, b1, List.take_length]
        have HL : Hid (l.length ≤ s.size) := by unfold Hid; omega
        clear hB hO HT HOne hlen hlt hk hn9
        go_wp2_with fail
        refine ((HEnd _ _ _ _ hI.out).out).mono ?_
        rintro en w7 ⟨rfl, x7⟩
        have hO7 := hid (ownsRow_ext hO8.out x7)
        have hW7 : Hid (∀ z ∈ l, FragO w7 z.1 z.2) := fun z hz => ((hW.out z hz)).ext x7
        have hE7 := hid (hE.out.trans x7)
        clear hE hI x7 HEnd hO8 hW
        go_wp2_with fail
        go_ret2
        exact ⟨_, _, l, rfl, hO7.out, hW7.out, hG.out, HL.out, hE7.out, HD.out⟩
set_option maxRecDepth 100000 in
set_option maxHeartbeats 8000000 in
theorem partsKn_c (w : World) (s : ByteArray) (hs : s.size ≤ 65536) (enc : KnownI → ByteArray) (ok : KnownI → Prop) (hone : ∀ W t, t.size ≤ s.size → Ext w W → Calls Tryz.prog 58 #[.string t] W (fun en w' => ∃ (z : KnownI) (e : Int), en = .returned (.tuple #[.agg z.arr, .int .i64 e]) ∧ True ∧ KnownOk z ∧ Ext W w' ∧ ∀ x0, ok x0 → t = enc x0 → z = x0 ∧ e = 0)) : Calls Tryz.prog 57 #[.string s, .func (.func 58) #[] #[]] w (fun en w' => ∃ (v : Value) (b : Bool) (l : List KnownI), en = .returned (.tuple #[v, .bool b]) ∧ w'.ownsRow w.heap.size 93 67 v l.length (l.map KnownI.list).flatten ∧ (∀ z ∈ l, True) ∧ (∀ z ∈ l, KnownOk z) ∧ l.length ≤ s.size ∧ Ext w w' ∧ ∀ l0 : List KnownI, (∀ x ∈ l0, ok x) → l0.length ≤ 90000 → s = listB enc l0 → l.map (fun z => z) = l0) := by
  have HO := fun W => hid (over_c W s)
  have HN := fun W q (h' : InAt W q s 0) => hid (n_c W q s 0 h' (by omega))
  have HT := fun W q (s' : ByteArray) (e' : Int) (h' : InAt W q s' e') (hs' : s'.size ≤ s.size) => hid (t_c W q s' e' h' (by omega))
  have HEnd := fun W q (s' : ByteArray) (e' : Int) (h' : InAt W q s' e') => hid (end_c W q s' e' h')
  have HOne := hid hone
  clear hone
  go_enter Tryz.func57, Tryz.ntmps57
  go_wp2_with fail
  refine ((HO _).out).mono ?_
  rintro en w1 ⟨v, rfl, ⟨q, rfl, hq, hI⟩, x1⟩
  have HI1 := hid hI
  have HE1 := hid x1
  have HQ := hid hq
  clear hI x1 hq HO
  go_wp2_with fail
  refine ((HN _ _ HI1.out).out).mono ?_
  rintro en w2 ⟨n, s2, e2, rfl, hn, k2, h2, hs2, r2⟩
  have HI2 := hid h2
  have HE2 : Hid (Ext w w2) := Ext.of_below (((Keep.of_ext (S := fun g => g = q) HE1.out).trans k2).below (Nat.le_refl _) fun k hk => by have := HQ.out; omega)
  have HS2 := hid hs2
  have HB : Hid (∀ l0 : List KnownI, s = listB enc l0 → l0.length ≤ 90000 → n = l0.length ∧ l0.length ≤ s.size ∧ s2.data.toList = encL (l0.map (fun x => fT (enc x))) ∧ e2 = 0) := fun l0 a0 a1 => by
    have a2 : s.data.toList = lebL l0.length ++ encL (l0.map (fun x => fT (enc x))) := by
      rw [a0]
      show encL (fN l0.length :: l0.map (fun x => fT (enc x))) = _
      rw [encL_cons]; rfl
    obtain ⟨b1, b2, b3⟩ := r2 l0.length _ rfl (by omega) a2
    refine ⟨b1, ?_, b2, b3⟩
    have c1 : s.data.toList.length = s.size := by rw [Array.length_toList]; rfl
    rw [a2, List.length_append] at c1
    have := encT_ge enc l0
    omega
  clear k2 h2 r2 hs2 HI1 HE1 HN
  by_cases hbig : (s.size : Int) < n
  · have d0 : decide ((s.size : Int) < n) = true := decide_eq_true hbig
    have d0' : decide (s.size < n) = true := decide_eq_true (by omega)
    have HD : Hid (∀ l0 : List KnownI, (∀ x ∈ l0, ok x) → l0.length ≤ 90000 → s = listB enc l0 → [] = l0) := fun l0 _ a1 a2 => by
      obtain ⟨b1, b2, _⟩ := HB.out l0 a2 a1
      exfalso; omega
    clear hbig HB HT HEnd HOne
    go_wp2_with fail
    go_ret2
    exact ⟨_, _, [], rfl, ownsRow_nil _ _ _ _, fun x hx => (by cases hx), fun x hx => (by cases hx), Nat.zero_le _, HE2.out, HD.out⟩
  · have d0 : decide ((s.size : Int) < n) = false := decide_eq_false hbig
    have d0' : decide (s.size < n) = false := decide_eq_false (by omega)
    have hn9 : n ≤ s.size := by omega
    clear hbig hn
    go_wp2_with fail
    go_loopw [8, 20] (fun s8 s20 wr => ∃ (k : Nat) (ov : Value) (l : List KnownI) (s' : ByteArray) (e' : Int), ov = s8 ∧ k ≤ n ∧ s20 = .int .i64 k ∧ l.length = k ∧ Hid (Ext w wr) ∧ Hid (InAt wr q s' e') ∧ Hid (s'.size ≤ s.size) ∧ Hid (∀ z ∈ l, KnownOk z) ∧ Hid (∀ z ∈ l, True) ∧ Hid (wr.ownsRow (q + 1) 93 67 s8 l.length (l.map KnownI.list).flatten) ∧ Hid (∀ l0 : List KnownI, (∀ x ∈ l0, ok x) → s = listB enc l0 → l0.length ≤ 90000 → n = l0.length ∧ l.map (fun z => z) = l0.take k ∧ s'.data.toList = encL ((l0.drop k).map (fun x => fT (enc x))) ∧ e' = 0)) (fun _ s20 _ => n - (intOf s20).toNat)
    case atStart => exact ⟨0, _, [], s2, e2, rfl, by omega, rfl, rfl, HE2, HI2, HS2, fun x hx => (by cases hx), fun x hx => (by cases hx), ownsRow_nil _ _ _ _, fun l0 a0 a1 a2 => by
      obtain ⟨b1, b2, b3, b4⟩ := HB.out l0 a1 a2
      exact ⟨b1, rfl, b3, b4⟩⟩
    case round =>
      obtain ⟨k, s8, l, s', e', rfl, hk, rfl, hlen, hE, hI, hS, hG, hW, hO, hB⟩ := hrel
      clear HE2 HI2 HS2 HB
      by_cases hlt : k < n
      · have d1 : decide ((k : Int) < n) = true := decide_eq_true (by omega)
        have d1' : decide (k < n) = true := decide_eq_true hlt
        have hn9' := hid hn9
        have hln := hid hlen
        have hlt' := hid hlt
        clear hlen hlt
        go_wp2_with fail
        refine ((HT _ _ _ _ hI.out hS.out).out).mono ?_
        rintro en w3 ⟨t, s3, e3, rfl, ht, k3, h3, hs3, r3⟩
        have hI3 := hid h3
        have hE3 : Hid (Ext w w3) := Ext.of_below (((Keep.of_ext (S := fun g => g = q) hE.out).trans k3).below (Nat.le_refl _) fun k hk => by have := HQ.out; omega)
        have hO3 : Hid (w3.ownsRow (q + 1) 93 67 s8 l.length (l.map KnownI.list).flatten) := row_keep hO.out k3 (fun g hg => by omega)
        have hW3 : Hid (∀ z ∈ l, True) := fun z hz => trivial
        have hS3 : Hid (s3.size ≤ s.size) := by have := hS.out; unfold Hid; omega
        have HCall := HOne.out w3 t (by have := hS.out; omega) hE3.out
        have R3 := hid r3
        clear k3 h3 hs3 r3 ht hI hE hO hS hW
        go_wp2_with fail
        refine HCall.mono ?_
        rintro en w4 ⟨x, e, rfl, hx4, hg, x4, hb⟩
        have hz := hid (known_arr x)
        have ho1 := hid (known_oneA x)
        have X4 := hid (x4.trans (Ext.alloc w4 (.cells x.arr 93)))
        have hI4 := hid (hI3.out.ext X4.out)
        have hE4 := hid (hE3.out.trans X4.out)
        have hO4 := hid (ownsRow_ext hO3.out X4.out)
        have hW4 : Hid (∀ z ∈ l ++ [x], True) := fun z hz => by
          rcases List.mem_append.1 hz with hz | hz
          · exact trivial
          · (try rw [List.mem_singleton.1 hz]); exact trivial
        have HU4 := hid (Blk.new w4 93 x.arr)
        have hB4 : Hid (∀ l0 : List KnownI, (∀ x ∈ l0, ok x) → s = listB enc l0 → l0.length ≤ 90000 → e = 0 ∧ n = l0.length ∧ (l ++ [x]).map (fun z => z) = l0.take (k + 1) ∧ s3.data.toList = encL ((l0.drop (k + 1)).map (fun x => fT (enc x))) ∧ e3 = 0) := fun l0 a0 a1 a2 => by
          obtain ⟨b1, b2, b3, b4⟩ := hB.out l0 a0 a1 a2
          have hlt := hlt'.out
          have hkl : k < l0.length := by omega
          rw [List.drop_eq_getElem_cons hkl, List.map_cons, encL_cons] at b3
          have b3' : s'.data.toList = lebL (enc l0[k]).size ++ ((enc l0[k]).data.toList ++ encL ((l0.drop (k + 1)).map (fun x => fT (enc x)))) := by
            rw [b3]
            show (lebL (enc l0[k]).size ++ (enc l0[k]).data.toList) ++ _ = _
            rw [List.append_assoc]
          obtain ⟨c1, c2, c3⟩ := R3.out _ _ b4 b3'
          obtain ⟨f1, f2⟩ := hb l0[k] (a0 _ (List.getElem_mem hkl)) c1
          refine ⟨f2, b1, ?_, c2, c3⟩
          rw [List.take_succ_eq_append_getElem hkl, ← b2, List.map_append, ← f1]; rfl
        have hG4 : Hid (∀ z ∈ l ++ [x], KnownOk z) := fun y hy => by
          rcases List.mem_append.1 hy with hy | hy
          · exact hG.out y hy
          · rw [List.mem_singleton.1 hy]; exact hg
        have hbs := fun W => build_known W x.arr hz.out
        have HAe : Hid ((KnownI.list x).toArray = x.arr) := rfl
        obtain ⟨arr, harr⟩ : ∃ arr, x.arr = arr := ⟨_, rfl⟩
        rw [harr] at hz ho1 X4 hI4 hE4 hO4 HU4 hbs HAe ⊢
        try rw [harr] at hW4
        clear hb hB R3 hI3 hE3 hO3 HCall hg hG hW3 hx4 x4 harr
        go_wp2_with fail
        have HB3 := hid (Blk.new w4 93 knownZ)
        simp only [Tryz.sizeOf93, Result.andThen, ↓reduceIte, run_storeCells_blk HB3.out (by rw [hz.out]; exact known_size) (by rw [hz.out, knownZ_size]) ho1.out, hz.out]
        rw [Oper.upon_skip]
        rw [World.setRow_alloc_new]
        clear HB3
        by_cases h0 : e = 0
        · have d2 : (e != 0) = false := by simp [h0]
          clear h0
          generalize w4.alloc (.cells arr 93) = w5 at X4 hI4 hE4 hO4 hW4 HU4 ⊢
          obtain ⟨v', w6, hrun6, ho6, hk6, _⟩ := app_one (P := Tryz.prog) known_elem known_coded hO4.out (Nat.succ_le_of_lt hI4.out.lt) x (by have := hn9'.out; have := hln.out; omega) (by omega)
          rw [HAe.out] at hrun6
          have HE6 := hid (hk6.toExt hE4.out (fun g hg => Nat.le_trans HQ.out (Nat.le_of_lt (row_block hO4.out g hg).1)))
          have HI6 : Hid (InAt w6 q s3 e3) := Blk.keep hI4.out hk6 (fun h => by have := (row_block hO4.out q h).1; omega)
          have HW6 : Hid (∀ z ∈ l ++ [x], True) := fun z hz => trivial
          have HO6 := hid ho6
          clear ho6 hk6 hI4 hE4 hO4 hW4 X4 ho1
          go_wp2_with fail
          simp only [Tryz.isAgg93, Tryz.sizeOf93, Result.andThen, ↓reduceIte, run_loadCells_blk HU4.out 67 hz.out]
          rw [Oper.upon_value]
          go_wp2_with (first | (at_builtin; refine wpList_app rfl (.tmp 31) (.tmp 33) _ _ rfl rfl rfl hrun6 ?_) | (refine wpList_bs rfl 23 (.tmp 32) rfl rfl (hbs _) ?_))
          go_roundw
          case rel => exact ⟨k + 1, _, l ++ [x], s3, e3, rfl, by have := hlt'.out; omega, by go_num, by rw [List.length_append, hln.out]; rfl, HE6, HI6, hS3, hG4, HW6, HO6, fun l0 a0 a1 a2 => (hB4.out l0 a0 a1 a2).2⟩
          case measure => simp [intOf]; have := hlt'.out; omega
        · have d2 : (e != 0) = true := by simp [h0]
          have HD : Hid (∀ l0 : List KnownI, (∀ x ∈ l0, ok x) → l0.length ≤ 90000 → s = listB enc l0 → [] = l0) := fun l0 a0 a1 a2 => absurd (hB4.out l0 a0 a2 a1).1 h0
          clear h0 hB4 hI4 hO4 hG4 hW4 hbs
          go_wp2_with fail
          go_ret2
          exact ⟨_, _, [], rfl, ownsRow_nil _ _ _ _, fun x hx => (by cases hx), fun x hx => (by cases hx), Nat.zero_le _, hE4.out, HD.out⟩
      · obtain rfl : k = n := by omega
        have hO8 := hid (ownsRow_mono hO.out (Nat.le_succ_of_le HQ.out))
        have HD : Hid (∀ l0 : List KnownI, (∀ x ∈ l0, ok x) → l0.length ≤ 90000 → s = listB enc l0 → l.map (fun z => z) = l0) := fun l0 a0 a1 a2 => by
          obtain ⟨b1, b2, _⟩ := hB.out l0 a0 a2 a1
          rw [b2, b1, List.take_length]
        have HL : Hid (l.length ≤ s.size) := by unfold Hid; omega
        clear hB hO HT HOne hlen hlt hk hn9
        go_wp2_with fail
        refine ((HEnd _ _ _ _ hI.out).out).mono ?_
        rintro en w7 ⟨rfl, x7⟩
        have hO7 := hid (ownsRow_ext hO8.out x7)
        have hW7 : Hid (∀ z ∈ l, True) := fun z hz => trivial
        have hE7 := hid (hE.out.trans x7)
        clear hE hI x7 HEnd hO8 hW
        go_wp2_with fail
        go_ret2
        exact ⟨_, _, l, rfl, hO7.out, hW7.out, hG.out, HL.out, hE7.out, HD.out⟩
end Go.Proofs.YtmbgakjkhgdjnaaGreatDoor
namespace Go.Proofs.YtmbgakjkhgdjnaaGreatDoor
set_option linter.unusedSimpArgs false
set_option linter.unusedVariables false
open Go.RowKit

theorem knw_size : (Tryz.prog.info? 25).map (·.size) = some 2 := by kernel_rfl
attribute [-simp] Tryz.isAgg25 Tryz.sizeOf25
set_option maxRecDepth 100000 in
set_option maxHeartbeats 2000000 in
theorem sameK_x (w : World) (X : Array Value) (hX : X.size = 2) (hX1 : X.all (·.oneCell') = true) (s r : ByteArray) (e : Int) (HP : ∀ W, Ext w W → Hid (Calls Tryz.prog 10 #[.agg X] W (Ret (.tuple #[.string r, .int .i64 e]) W))) : Calls Tryz.prog 59 #[.agg X, .string s, .func (.func 10) #[] #[]] w (Ret (.tuple #[.agg (if e = 0 ∧ r = s then X else (#[.slice none 0 0, .slice none 0 0] : Array Value)), .int .i64 (if e = 0 ∧ r = s then 0 else 6)]) w) := by
  obtain ⟨Z, hZ⟩ : ∃ Z : Array Value, (#[.slice none 0 0, .slice none 0 0] : Array Value) = Z := ⟨_, rfl⟩
  have HX := hid (((Blk.new w 25 X).alloc (.cells Z 25)).alloc (.cells Z 25))
  have HR := hid ((Blk.new (w.alloc (.cells X 25)) 25 Z).alloc (.cells Z 25))
  have HN := hid (Blk.new ((w.alloc (.cells X 25)).alloc (.cells Z 25)) 25 Z)
  simp only [World.size_alloc] at HR HN
  have HE := hid (((Ext.alloc w (.cells X 25)).alloc' (.cells Z 25)).alloc' (.cells Z 25))
  have HhX := hid hX
  have HhO := hid hX1
  have HZ := hid (show Z.size = 2 by rw [← hZ]; rfl)
  have HZ1 := hid (show Z.all (·.oneCell') = true by rw [← hZ]; kernel_rfl)
  clear hX hX1
  rw [hZ]
  have key : ∀ (y : Array Value) (z : Int), (e = 0 ∧ r = s ∧ X = y ∧ z = 0 ∨ (e != 0) = true ∧ Z = y ∧ z = 6 ∨ e = 0 ∧ (r.toList == s.toList) = false ∧ Z = y ∧ z = 6) → Calls Tryz.prog 59 #[.agg X, .string s, .func (.func 10) #[] #[]] w (Ret (.tuple #[.agg y, .int .i64 z]) w) := by
    rintro y z (⟨rfl, rfl, rfl, rfl⟩ | ⟨d0, rfl, rfl⟩ | ⟨rfl, d1, rfl, rfl⟩)
    · have d0 : (r.toList == r.toList) = true := by simp
      go_enter Tryz.func59, Tryz.ntmps59
      go_wp2_with fail
      clear hZ
      generalize ((w.alloc (.cells _ 25)).alloc (.cells Z 25)).alloc (.cells Z 25) = w0 at HX HR HN HE ⊢
      simp only [Tryz.isAgg25, Tryz.sizeOf25, Result.andThen, ↓reduceIte, run_loadCells_blk HX.out 2 HhX.out]
      rw [Oper.upon_value]
      go_wp2_with fail
      refine ((HP _ HE.out).out).mono ?_
      rintro en w1 ⟨rfl, x1⟩
      have HX1 := hid (HX.out.ext x1)
      have HR1 := hid (HR.out.ext x1)
      have HN1 := hid (HN.out.ext x1)
      have HE1 := hid (HE.out.trans x1)
      clear x1 HX HR HN HE HP
      go_wp2_with fail
      simp only [Tryz.isAgg25, Tryz.sizeOf25, Result.andThen, ↓reduceIte, run_loadCells_blk HX1.out 2 HhX.out]
      rw [Oper.upon_value]
      go_wp2_with fail
      simp only [Tryz.sizeOf25, Result.andThen, ↓reduceIte, run_storeCells_blk HR1.out (by rw [HhX.out]; exact knw_size) (by first | rfl | rw [HhX.out, HZ.out] | rw [HZ.out, HhX.out]) HhO.out, HhX.out]
      rw [Oper.upon_skip]
      go_wp2_with fail
      have HF := hid (HR1.out.setRow X)
      exact bodyPost_ret (results_cell_row_tmp rfl _ _ (w.heap.size + 1) 25 _ (0, 0) _ rfl HF.out Tryz.underlying25 rfl (by rw [HhX.out]; exact knw_size)) rfl ⟨rfl, Ext.setRow HE1.out (by omega) _⟩
    · go_enter Tryz.func59, Tryz.ntmps59
      go_wp2_with fail
      clear hZ
      generalize ((w.alloc (.cells _ 25)).alloc (.cells Z 25)).alloc (.cells Z 25) = w0 at HX HR HN HE ⊢
      simp only [Tryz.isAgg25, Tryz.sizeOf25, Result.andThen, ↓reduceIte, run_loadCells_blk HX.out 2 HhX.out]
      rw [Oper.upon_value]
      go_wp2_with fail
      refine ((HP _ HE.out).out).mono ?_
      rintro en w1 ⟨rfl, x1⟩
      have HX1 := hid (HX.out.ext x1)
      have HR1 := hid (HR.out.ext x1)
      have HN1 := hid (HN.out.ext x1)
      have HE1 := hid (HE.out.trans x1)
      clear x1 HX HR HN HE HP
      go_wp2_with fail
      simp only [Tryz.isAgg25, Tryz.sizeOf25, Result.andThen, ↓reduceIte, run_loadCells_blk HN1.out 2 HZ.out]
      rw [Oper.upon_value]
      go_wp2_with fail
      simp only [Tryz.sizeOf25, Result.andThen, ↓reduceIte, run_storeCells_blk HR1.out (by rw [HZ.out]; exact knw_size) (by first | rfl | rw [HZ.out, HZ.out] | rw [HZ.out, HZ.out]) HZ1.out, HZ.out]
      rw [Oper.upon_skip]
      go_wp2_with fail
      have HF := hid (HR1.out.setRow Z)
      exact bodyPost_ret (results_cell_row_tmp rfl _ _ (w.heap.size + 1) 25 _ (0, 0) _ rfl HF.out Tryz.underlying25 rfl (by rw [HZ.out]; exact knw_size)) rfl ⟨rfl, Ext.setRow HE1.out (by omega) _⟩
    · go_enter Tryz.func59, Tryz.ntmps59
      go_wp2_with fail
      clear hZ
      generalize ((w.alloc (.cells _ 25)).alloc (.cells Z 25)).alloc (.cells Z 25) = w0 at HX HR HN HE ⊢
      simp only [Tryz.isAgg25, Tryz.sizeOf25, Result.andThen, ↓reduceIte, run_loadCells_blk HX.out 2 HhX.out]
      rw [Oper.upon_value]
      go_wp2_with fail
      refine ((HP _ HE.out).out).mono ?_
      rintro en w1 ⟨rfl, x1⟩
      have HX1 := hid (HX.out.ext x1)
      have HR1 := hid (HR.out.ext x1)
      have HN1 := hid (HN.out.ext x1)
      have HE1 := hid (HE.out.trans x1)
      clear x1 HX HR HN HE HP
      go_wp2_with fail
      simp only [Tryz.isAgg25, Tryz.sizeOf25, Result.andThen, ↓reduceIte, run_loadCells_blk HN1.out 2 HZ.out]
      rw [Oper.upon_value]
      go_wp2_with fail
      simp only [Tryz.sizeOf25, Result.andThen, ↓reduceIte, run_storeCells_blk HR1.out (by rw [HZ.out]; exact knw_size) (by first | rfl | rw [HZ.out, HZ.out] | rw [HZ.out, HZ.out]) HZ1.out, HZ.out]
      rw [Oper.upon_skip]
      go_wp2_with fail
      have HF := hid (HR1.out.setRow Z)
      exact bodyPost_ret (results_cell_row_tmp rfl _ _ (w.heap.size + 1) 25 _ (0, 0) _ rfl HF.out Tryz.underlying25 rfl (by rw [HZ.out]; exact knw_size)) rfl ⟨rfl, Ext.setRow HE1.out (by omega) _⟩
  by_cases h0 : e = 0
  · by_cases h1 : r = s
    · rw [if_pos ⟨h0, h1⟩, if_pos ⟨h0, h1⟩]
      exact key _ _ (.inl ⟨h0, h1, rfl, rfl⟩)
    · rw [if_neg (fun h => h1 h.2), if_neg (fun h => h1 h.2)]
      exact key _ _ (.inr (.inr ⟨h0, by rw [beq_toList]; simp [h1], rfl, rfl⟩))
  · rw [if_neg (fun h => h0 h.1), if_neg (fun h => h0 h.1)]
    exact key _ _ (.inr (.inl ⟨by simp [h0], rfl, rfl⟩))
/-- What is read of knowledge. -/
structure KnowG (k : KnowI) : Prop where
  ok : KnowOk k
  vs : ∀ x ∈ k.fs, x.v.length = 65
theorem know_back {s s2 s3 t1 t2 : ByteArray} {e2 e3 : Int} (r1 : ReadT s 0 t1 s2 e2) (r2 : ReadT s2 e2 t2 s3 e3) (k : KnowI) (hs : s = knowB k) : t1 = listB fragB k.fs ∧ t2 = listB knownB k.ks := by
  have e : s.data.toList = lebL (listB fragB k.fs).size ++ ((listB fragB k.fs).data.toList ++ (lebL (listB knownB k.ks).size ++ ((listB knownB k.ks).data.toList ++ []))) := by
    rw [hs]
    unfold knowB
    simp only [ByteArray.data_append, Array.toList_append, textB_list, List.append_assoc, List.append_nil]
  obtain ⟨a1, a2, a3⟩ := r1 _ _ rfl e
  obtain ⟨b1, b2, b3⟩ := r2 _ _ a3 a2
  exact ⟨a1, b1⟩
theorem know_of {w : World} {u v : Value} {l : List (FragC × FragI)} {ks : List KnownI} {B B' : Nat} (hu : w.ownsRow B 79 67 u l.length (l.map FragP.list).flatten) (hl : ∀ z ∈ l, FragO w z.1 z.2) (hv : w.ownsRow B' 93 67 v ks.length (ks.map KnownI.list).flatten) : KnowAt w u v ⟨l.map (·.2), ks⟩ := by
  refine ⟨⟨l.map (·.1), by simp, fun i c x h1 h2 => ?_, ?_⟩, sl_of_row (xs := ks.map KnownI.list) (known_coded.sizes _) (by rw [List.length_map]; exact hv)⟩
  · rw [List.getElem?_map] at h1 h2
    obtain ⟨z, hz, rfl⟩ := Option.map_eq_some_iff.1 h1
    rw [hz] at h2
    injection h2 with h2
    subst h2
    exact (hl z (List.mem_of_getElem? hz)).at
  · have e : (l.map (·.1)).map FragC.list = l.map FragP.list := by rw [List.map_map]; rfl
    rw [e]
    exact sl_of_row (xs := l.map FragP.list) (fragP_coded.sizes _) (by rw [List.length_map]; exact hu)
set_option maxRecDepth 100000 in
set_option maxHeartbeats 8000000 in
theorem getK_c (w : World) (s : ByteArray) (m : Int) (hm : w.cell? ⟨0, 0, none⟩ = some (.int .i64 m)) (hs : s.size ≤ 65536) : Calls Tryz.prog 14 #[.string s] w (fun en w' => ∃ (u v : SlV) (k : KnowI) (z : Int), en = .returned (.tuple #[.agg #[.slice u.a u.n u.c, .slice v.a v.n v.c], .int .i64 z]) ∧ KnowAt w' u.val v.val k ∧ KnowG k ∧ Ext w w' ∧ ((z = 0 ∧ mayB k = true ∧ knowB k = s) ∨ (z = 6 ∧ u = nilS ∧ v = nilS ∧ k = ⟨[], []⟩)) ∧ (∀ k0, KnowG k0 → mayB k0 = true → s = knowB k0 → z = 0 ∧ k = k0)) := by
  have HO := fun W => hid (over_c W s)
  have HT := fun W q (s' : ByteArray) (e' : Int) (h' : InAt W q s' e') (hs' : s'.size ≤ 65536) => hid (t_c W q s' e' h' (by omega))
  have HFr := fun W t (hW : Ext w W) (ht : t.size ≤ 65536) => hid (partsFr_c W t ht fragB (fun x => x.v.length = 65 ∧ FragOk x ∧ mayF x = true) (fun W' t' ht' hW' => (getFrag_c W' t' m ((hW.trans hW').cell hm) (by omega)).mono fun en w' ⟨c, x, e, h1, h2, h3, h4, h5⟩ => ⟨(c, x), e, h1, h2, h3, h4, fun x0 a b => h5 x0 a.1 a.2.1 a.2.2 b⟩))
  have HKn := fun W t (ht : t.size ≤ 65536) => hid (partsKn_c W t ht knownB (fun x => KnownOk x ∧ mayN x = true) (fun W' t' ht' _ => (getKnown_c W' t' (by omega)).mono fun en w' ⟨x, e, h1, h3, h4, h5⟩ => ⟨x, e, h1, trivial, h3, h4, fun x0 a b => h5 x0 a.1 a.2 b⟩))
  have HSm := fun W (u v : SlV) (k : KnowI) (hW : Ext w W) (h : KnowAt W u.val v.val k) (hk : KnowOk k) => hid (sameK_x W #[.slice u.a u.n u.c, .slice v.a v.n v.c] rfl (by simp [Value.oneCell']) s _ _ (fun W' hW' => hid (putK_c W' u.val v.val k m ((hW.trans hW').cell hm) (h.ext hW') hk)))
  simp only [gotX hs] at HSm
  have HR0 := hid (Blk.new w 25 #[.slice none 0 0, .slice none 0 0])
  have HE0 := hid (Ext.alloc w (.cells #[.slice none 0 0, .slice none 0 0] 25))
  clear hm
  go_enter Tryz.func14, Tryz.ntmps14
  go_wp2_with fail
  refine ((HO _).out).mono ?_
  rintro en w1 ⟨v, rfl, ⟨q, rfl, hq, hI⟩, x1⟩
  have HI1 := hid hI
  have HR1 := hid (HR0.out.ext x1)
  have HE1 := hid (HE0.out.trans x1)
  rw [World.size_alloc] at hq
  have NR : Hid (¬ w.heap.size = q) := by unfold Hid; omega
  have HQ := hid hq
  clear hI x1 hq HR0 HE0 HO
  have HK1 := hid (Keep.of_ext (S := fun g => g = q) HE1.out)
  have ToE : Hid (∀ W, Keep (fun g => g = q) w W → Ext w W) := fun W hk => Ext.of_below (hk.below (Nat.le_refl _) fun k hk => by have := HQ.out; omega)
  clear HE1
  go_wp2_with fail
  refine ((HT _ _ _ _ HI1.out hs).out).mono ?_
  rintro en w2 ⟨t1, s2, e2, rfl, ht1, k2, h2, hs2, r1⟩
  have HI2 := hid h2
  have HR2 := hid (HR1.out.keep k2 NR.out)
  have HK2 := hid (HK1.out.trans k2)
  have R1 := hid r1
  have ht1' : t1.size ≤ 65536 := by omega
  have hs2' : s2.size ≤ 65536 := by omega
  clear k2 h2 r1 ht1 HI1 HR1 HK1 hs2
  go_wp2_with fail
  refine ((HFr _ _ (ToE.out _ HK2.out) ht1').out).mono ?_
  rintro en w3 ⟨vf, bf, lf, rfl, hrf, hof, hgf, hlf, x3, hbf⟩
  obtain ⟨sf, rfl⟩ := slV_of hrf
  have HI3 := hid (HI2.out.ext x3)
  have HR3 := hid (HR2.out.ext x3)
  have HK3 := hid (HK2.out.ext x3)
  have HF3 := hid hrf
  have HO3 := hid hof
  have HGF := hid hgf
  have HLF := hid hlf
  have BF := hid hbf
  unfold SlV.val
  clear hrf hof hgf hlf hbf x3 HI2 HR2 HK2 ht1' HFr
  go_wp2_with fail
  refine ((HT _ _ _ _ HI3.out hs2').out).mono ?_
  rintro en w4 ⟨t2, s3, e3, rfl, ht2, k4, h4, hs3, r2⟩
  have HR4 := hid (HR3.out.keep k4 NR.out)
  have HK4 := hid (HK3.out.trans k4)
  have HF4 := hid (ownsRow_keep HF3.out k4 (fun g hg hq => row_apart HF3.out HI3.out (by decide) (by rw [← hq]; exact hg)))
  have HO4 : Hid (∀ z ∈ lf, FragO w4 z.1 z.2) := fun z hz => (HO3.out z hz).keepBlk HI3.out (by decide) (by decide) k4
  have R2 := hid r2
  have ht2' : t2.size ≤ 65536 := by omega
  clear k4 h4 r2 ht2 hs3 HI3 HR3 HK3 HF3 HO3 HT hs2'
  go_wp2_with fail
  refine ((HKn _ _ ht2').out).mono ?_
  rintro en w5 ⟨vk, bk, lk, rfl, hrk, -, hgk, hlk, x5, hbk⟩
  obtain ⟨sk, rfl⟩ := slV_of hrk
  have HR5 := hid (HR4.out.ext x5)
  have HE5 := hid (ToE.out _ (HK4.out.ext x5))
  have HKw := hid (know_of (ownsRow_ext HF4.out x5) (fun z hz => (HO4.out z hz).ext x5) hrk)
  have HLast : Hid (∀ W W', Ext w5 W → Keep (fun g => g = w.heap.size) W W' → KnowAt W' sf.val sk.val ⟨lf.map (·.2), lk⟩) := fun W W' hW hk => by
    have hb := HR5.out.ext hW
    have f1 := ownsRow_ext (ownsRow_ext HF4.out x5) hW
    have f2 := ownsRow_ext hrk hW
    exact know_of (ownsRow_keep f1 hk (fun g hg hq => row_apart f1 hb (by decide) (by rw [← hq]; exact hg))) (fun z hz => (((HO4.out z hz).ext x5).ext hW).keepBlk hb (by decide) (by decide) hk) (ownsRow_keep f2 hk (fun g hg hq => row_apart f2 hb (by decide) (by rw [← hq]; exact hg)))
  have HOk : Hid (KnowG ⟨lf.map (·.2), lk⟩) := by
    refine ⟨⟨fun x hx => ?_, fun x hx => ?_, hgk⟩, fun x hx => ?_⟩
    · obtain ⟨z, hz, rfl⟩ := List.mem_map.1 hx
      exact (HGF.out z hz).ok
    · obtain ⟨z, hz, rfl⟩ := List.mem_map.1 hx
      exact (HGF.out z hz).sz
    · obtain ⟨z, hz, rfl⟩ := List.mem_map.1 hx
      rw [← (HO4.out z hz).1]; exact z.1.hv
  have HBk : Hid (∀ k0, KnowG k0 → mayB k0 = true → s = knowB k0 → (⟨lf.map (·.2), lk⟩ : KnowI) = k0) := fun k0 a0 a1 a2 => by
    obtain ⟨b1, b2⟩ := know_back R1.out R2.out k0 a2
    obtain ⟨c1, c2, c3, c4⟩ := mayB_parts a1
    have d1 := BF.out k0.fs (fun x hx => ⟨a0.vs x hx, a0.ok.fs x hx, c1 x hx⟩) (by omega) b1
    have d2 := hbk k0.ks (fun x hx => ⟨a0.ok.ks x hx, c2 x hx⟩) (by omega) b2
    rw [List.map_id'] at d2
    exact know_eq.2 ⟨d1, d2⟩
  unfold SlV.val
  clear hrk hgk hlk x5 hbk HR4 HK4 HF4 HO4 BF HGF HLF R1 R2 ht2' HKn HQ ToE NR
  generalize (⟨lf.map (·.2), lk⟩ : KnowI) = k at HKw HOk HBk HLast
  have HS := HSm w5 sf sk k HE5.out HKw.out HOk.out.ok
  clear HSm
  go_wp2_with fail
  refine (HS.out).mono ?_
  rintro en w6 ⟨rfl, x6⟩
  have HR6 := hid (HR5.out.ext x6)
  have HE6 := hid (HE5.out.trans x6)
  have HLs := hid (fun W' hk => HLast.out w6 W' x6 hk)
  clear x6 HR5 HE5 HKw HS HLast
  by_cases hc : mayB k = true ∧ knowB k = s
  · rw [if_pos hc, if_pos hc]
    have HC := hid hc
    clear hc
    obtain ⟨X, hX⟩ : ∃ X : Array Value, #[.slice sf.a sf.n sf.c, .slice sk.a sk.n sk.c] = X := ⟨_, rfl⟩
    have hz9 : Hid (X.size = 2) := by rw [← hX]; rfl
    have ho9 : Hid (X.all (·.oneCell') = true) := by unfold Hid; rw [← hX]; simp [Value.oneCell']
    rw [hX]
    have HXe := hid hX
    clear hX
    go_wp2_with fail
    simp only [Tryz.sizeOf25, Result.andThen, ↓reduceIte, run_storeCells_blk HR6.out (by rw [hz9.out]; exact knw_size) (by first | rfl | rw [hz9.out, (show (#[.slice none 0 0, .slice none 0 0] : Array Value).size = 2 from rfl)] | rw [(show (#[.slice none 0 0, .slice none 0 0] : Array Value).size = 2 from rfl), hz9.out]) ho9.out, hz9.out]
    rw [Oper.upon_skip]
    go_wp2_with fail
    have HF := hid (HR6.out.setRow X)
    have HE8 := Ext.setRow HE6.out (Nat.le_refl _) X
    have hk8 : Keep (fun g => g = w.heap.size) w6 _ := Keep.setRow (S := fun g => g = w.heap.size) (Keep.refl _ w6) (.inl rfl) X
    refine bodyPost_ret (results_cell_row_tmp rfl _ _ w.heap.size 25 _ (0, 0) _ rfl HF.out Tryz.underlying25 rfl (by rw [hz9.out]; exact knw_size)) rfl ?_
    exact ⟨sf, sk, k, 0, by rw [← HXe.out]; rfl, HLs.out _ hk8, HOk.out, HE8, .inl ⟨rfl, HC.out.1, HC.out.2⟩, fun k0 a0 a1 a2 => ⟨rfl, HBk.out k0 a0 a1 a2⟩⟩
  · rw [if_neg hc, if_neg hc]
    have HN := hid hc
    clear hc
    obtain ⟨X, hX⟩ : ∃ X : Array Value, #[.slice none 0 0, .slice none 0 0] = X := ⟨_, rfl⟩
    have hz9 : Hid (X.size = 2) := by rw [← hX]; rfl
    have ho9 : Hid (X.all (·.oneCell') = true) := by unfold Hid; rw [← hX]; simp [Value.oneCell']
    rw [hX]
    have HXe := hid hX
    clear hX
    go_wp2_with fail
    simp only [Tryz.sizeOf25, Result.andThen, ↓reduceIte, run_storeCells_blk HR6.out (by rw [hz9.out]; exact knw_size) (by first | rfl | rw [hz9.out, (show (#[.slice none 0 0, .slice none 0 0] : Array Value).size = 2 from rfl)] | rw [(show (#[.slice none 0 0, .slice none 0 0] : Array Value).size = 2 from rfl), hz9.out]) ho9.out, hz9.out]
    rw [Oper.upon_skip]
    go_wp2_with fail
    have HF := hid (HR6.out.setRow X)
    have HE8 := Ext.setRow HE6.out (Nat.le_refl _) X
    have hk8 : Keep (fun g => g = w.heap.size) w6 _ := Keep.setRow (S := fun g => g = w.heap.size) (Keep.refl _ w6) (.inl rfl) X
    refine bodyPost_ret (results_cell_row_tmp rfl _ _ w.heap.size 25 _ (0, 0) _ rfl HF.out Tryz.underlying25 rfl (by rw [hz9.out]; exact knw_size)) rfl ?_
    refine ⟨nilS, nilS, ⟨[], []⟩, 6, by rw [← HXe.out]; rfl, ⟨FragsAt.nil _, Sl.nil _ 67⟩, ⟨⟨fun x hx => (by cases hx), fun x hx => (by cases hx), fun x hx => (by cases hx)⟩, fun x hx => (by cases hx)⟩, HE8, .inr ⟨rfl, rfl, rfl, rfl⟩, fun k0 a0 a1 a2 => ?_⟩
    obtain rfl := HBk.out k0 a0 a1 a2
    exact absurd ⟨a1, a2.symm⟩ HN.out
end Go.Proofs.YtmbgakjkhgdjnaaGreatDoor
namespace Go.Proofs.YtmbgakjkhgdjnaaGreatDoor
set_option linter.unusedSimpArgs false
set_option linter.unusedVariables false
open Go.RowKit

/-- The bytes of the first k parts, behind their number. -/
def partL {α : Type} (enc : α → ByteArray) (l : List α) (k : Nat) : ByteArray := lebB l.length ++ ⟨(encL ((l.take k).map fun x => fT (enc x))).toArray⟩
theorem partL_zero {α : Type} (enc : α → ByteArray) (l : List α) : partL enc l 0 = lebB l.length := by
  unfold partL
  apply ByteArray.ext
  rw [ByteArray.data_append]; simp [encL]
theorem partL_all {α : Type} (enc : α → ByteArray) (l : List α) : partL enc l l.length = listB enc l := by
  unfold partL listB
  rw [List.take_length, encL_cons]
  apply ByteArray.ext
  apply Array.ext'
  rw [ByteArray.data_append, Array.toList_append]
  rfl
theorem partL_next {α : Type} (enc : α → ByteArray) {l : List α} {k : Nat} (h : k < l.length) : partL enc l k ++ textB (enc l[k]) = partL enc l (k + 1) := by
  unfold partL
  rw [List.take_succ_eq_append_getElem h, List.map_append]
  apply ByteArray.ext
  apply Array.ext'
  simp only [ByteArray.data_append, Array.toList_append, textB_list]
  simp [encL, fT, FldI.enc]
theorem partL_le {α : Type} (enc : α → ByteArray) (l : List α) (k : Nat) : (partL enc l k).size ≤ (listB enc l).size := by
  rw [← partL_all]
  unfold partL
  rw [ByteArray.size_append, ByteArray.size_append]
  have h := encL_le (l := l.map fun x => fT (enc x)) k
  rw [← List.map_take] at h
  rw [List.take_length]
  have e1 : (⟨(encL ((l.take k).map fun x => fT (enc x))).toArray⟩ : ByteArray).size = (encL ((l.take k).map fun x => fT (enc x))).length := rfl
  have e2 : (⟨(encL (l.map fun x => fT (enc x))).toArray⟩ : ByteArray).size = (encL (l.map fun x => fT (enc x))).length := rfl
  omega
theorem listB_ge {α : Type} {enc : α → ByteArray} {x : α} {l : List α} (hx : x ∈ l) : (enc x).size ≤ (listB enc l).size := by
  rw [listB_size, encL_cons, List.length_append]
  have := listB_mem (enc := enc) hx
  omega
/-- Knowledge that the document's Know can lay. -/
structure KnowR (k : KnowI) : Prop where
  f : ∀ x ∈ k.fs, x.f.length ≤ 100 ∧ ∀ c ∈ x.f, c.pre.size ≤ 1000 ∧ in64 c.lo ∧ in64 c.hi
  ok : KnowOk k
  sz : (knowB k).size ≤ 90000
attribute [-simp] Tryz.isAgg44 Tryz.isAgg79 Tryz.sizeOf79
set_option maxRecDepth 100000 in
set_option maxHeartbeats 8000000 in
theorem rknow_c (w : World) (ua va : Value) (a : KnowI) (ha : KnowAt w ua va a) (hr : KnowR a) : Calls Tryz.prog 13 #[.agg #[ua, va]] w (Ret (.string (knowB a)) w) := by
  obtain ⟨⟨cs, hcl, hca, hcs⟩, hak⟩ := ha
  obtain ⟨A, c1, rfl, h1, h2, h3⟩ := sl_get hcs
  obtain ⟨C, c3, rfl, p1, p2, p3⟩ := sl_get hak
  obtain ⟨fa, ia⟩ := a
  unfold maxLen at h2 p2
  dsimp only at hcl p1 p2
  have hsz := hr.sz
  have hk : knowB ⟨fa, ia⟩ = textB (listB fragB fa) ++ textB (listB knownB ia) := rfl
  rw [hk] at hsz ⊢
  rw [ByteArray.size_append] at hsz
  have hg1 := textB_ge (listB fragB fa)
  have hg2 := textB_ge (listB knownB ia)
  have HRf := hid hr.f
  have HRo := hid hr.ok
  have HPl := fun k => partL_le fragB fa k
  have HQl := fun k => partL_le knownB ia k
  have HTx := fun W s hs => hid (rtext_c W s hs)
  have HN1 := fun W => hid (rnumber_c W fa.length (by omega))
  have HN2 := fun W => hid (rnumber_c W ia.length (by omega))
  rw [← partL_zero fragB fa, hcl.symm] at HN1
  rw [← partL_zero knownB ia] at HN2
  dsimp only at *
  clear hcs hak hk hr
  have HX := hid (Ext.alloc w (.cells #[.slice A cs.length c1, .slice C ia.length c3] 25))
  have HB1 := hid (Blk.new w 25 #[.slice A cs.length c1, .slice C ia.length c3])
  have H3 := hid h3
  have P3 := hid p3
  have HCL := hid hcl
  have HSz : Hid ((textB (listB fragB fa)).size ≤ 90000 ∧ (textB (listB knownB ia)).size ≤ 90000 ∧ (listB fragB fa).size ≤ 90000 ∧ (listB knownB ia).size ≤ 90000) := by unfold Hid; omega
  clear h3 p3 hcl hsz hg1 hg2
  go_enter Tryz.func13, Tryz.ntmps13
  go_wp2_with fail
  generalize w.alloc (.cells #[.slice A cs.length c1, .slice C ia.length c3] 25) = w0 at HB1 HX ⊢
  have z0 := HB1.out.cell (i := 0) rfl
  have y1 := HB1.out.lt
  go_wp2_with fail
  refine ((HN1 _).out).mono ?_
  rintro en w1 ⟨rfl, x1⟩
  have HE1 := hid x1
  clear x1 z0 y1 HN1
  go_wp2_with fail
  go_loopw [3, 4] (fun s3 s4 wr => ∃ k : Nat, k ≤ cs.length ∧ s3 = .string (partL fragB fa k) ∧ s4 = .int .i64 k ∧ Hid (Ext w0 wr)) (fun _ s4 _ => cs.length - (intOf s4).toNat)
  case atStart => exact ⟨0, by omega, rfl, rfl, HE1⟩
  case round =>
    obtain ⟨k, hk, rfl, rfl, hE⟩ := hrel
    clear HE1
    have z0 := (HB1.out.ext hE.out).cell (i := 0) rfl
    have y1 := (HB1.out.ext hE.out).lt
    have HXr := hid (HX.out.trans hE.out)
    by_cases hk1 : k < cs.length
    · have d1 : decide ((k : Int) < cs.length) = true := decide_eq_true (by omega)
      have d1' : decide (k < cs.length) = true := decide_eq_true hk1
      have hka : k < fa.length := by rw [← HCL.out]; exact hk1
      obtain ⟨b1, o1, rfl, lb1, g1⟩ := H3.out (by omega)
      obtain ⟨ea, sfa, sna⟩ := hca k cs[k] fa[k] (List.getElem?_eq_getElem hk1) (List.getElem?_eq_getElem hka)
      have hf := HRf.out fa[k] (List.getElem_mem hka)
      have ho := HRo.out.fs fa[k] (List.getElem_mem hka)
      have HG := hid (fun j u (hu : (cs[k].arr)[j]? = some u) => HXr.out.cell (g1 k hk1 j u (by unfold FragC.arr at hu; simpa using hu)))
      have hzs := hid (fragC_arr cs[k])
      have HOn := hid (fragC_oneA cs[k])
      have HF0 : Hid ((cs[k].arr)[0]? = some cs[k].f.val) := by unfold Hid FragC.arr; rw [List.getElem?_toArray]; exact fragC_f _
      have HF66 : Hid ((cs[k].arr)[66]? = some cs[k].n.val) := by unfold Hid FragC.arr; rw [List.getElem?_toArray]; exact fragC_n _
      have HFv := hid (fun j v (h : (vecV cs[k].v)[j]? = some v) => (show (cs[k].arr)[1 + j]? = some v by unfold FragC.arr; rw [List.getElem?_toArray]; exact fragC_v cs[k] j v h))
      have hz1 := hid (show (vecV cs[k].v).size = 65 by rw [vecV_size]; exact cs[k].hv)
      have HEn := fun W => hid (rends_c W cs[k].v cs[k].hv)
      have lr1 := Nat.lt_of_lt_of_le lb1 HXr.out.size
      have HM := hid (partL_next fragB hka)
      have hl0 := HPl k
      have hl1 := HPl (k + 1)
      have hS := HSz.out
      rw [ea] at HFv hz1 HEn
      clear g1 lb1 ea hca H3 P3 HRf HRo HPl HQl HSz
      generalize cs[k] = c at HG hzs HOn HF0 HF66 HFv sfa sna
      generalize fa[k] = x at HFv hz1 HEn sfa sna hf ho HM
      generalize c.arr = arr at HG hzs HOn HF0 HF66 HFv
      obtain ⟨⟨f1, f2, f3⟩, _, ⟨n1, n2, n3⟩, _⟩ := c
      simp only [SlV.val] at HF0 HF66 sfa sna
      have HFl := fun W (hW : Ext w W) => hid (rfilter_c W _ x.f (sfa.ext hW) hf.1 (fun c hc => hf.2 c hc))
      have HVn := fun W (hW : Ext w W) => hid (rvers_c W _ x.n (sna.ext hW) ho.l ho.n)
      have HVv := fun W u (hu : Sl W 2 u ((endsL x.v).map Ver.cells)) => hid (rvers_c W u (endsL x.v) hu (by have := endsL_len x.v; omega) (fun y hy => ver64_ok (endsL_ok ho.v y hy)))
      have hm : fragB x = textB (listB clB x.f) ++ textB (listB verB (endsL x.v)) ++ textB (listB verB x.n) := rfl
      rw [hm] at HM
      have hq := congrArg ByteArray.size HM.out
      rw [ByteArray.size_append] at hq
      have hq1 := textB_ge (textB (listB clB x.f) ++ textB (listB verB (endsL x.v)) ++ textB (listB verB x.n))
      have hq2 := textB_ge (listB clB x.f)
      have hq3 := textB_ge (listB verB (endsL x.v))
      have hq4 := textB_ge (listB verB x.n)
      have hq5 : (textB (listB clB x.f) ++ textB (listB verB (endsL x.v)) ++ textB (listB verB x.n)).size = (textB (listB clB x.f)).size + (textB (listB verB (endsL x.v))).size + (textB (listB verB x.n)).size := by rw [ByteArray.size_append, ByteArray.size_append]
      have hq6 : (textB (listB clB x.f) ++ textB (listB verB (endsL x.v))).size = (textB (listB clB x.f)).size + (textB (listB verB (endsL x.v))).size := by rw [ByteArray.size_append]
      have HT1 := fun W => HTx W (listB clB x.f) (by omega)
      have HT2 := fun W => HTx W (listB verB (endsL x.v)) (by omega)
      have HT3 := fun W => HTx W (listB verB x.n) (by omega)
      have HT4 := fun W => HTx W (textB (listB clB x.f) ++ textB (listB verB (endsL x.v)) ++ textB (listB verB x.n)) (by omega)
      clear sfa sna hf ho hm HTx
      generalize vecV x.v = X at HFv hz1 HEn
      generalize endsL x.v = ends at HEn HVv HM HT2 HT4 hq hq1 hq2 hq3 hq4 hq5 hq6
      generalize listB clB x.f = F at HFl HM HT1 HT4 hq hq1 hq2 hq3 hq4 hq5 hq6
      generalize listB verB ends = V at HVv HM HT2 HT4 hq hq1 hq2 hq3 hq4 hq5 hq6
      generalize listB verB x.n = N at HVn HM HT3 HT4 hq hq1 hq2 hq3 hq4 hq5 hq6
      generalize textB F = e1 at HT1 HM HT4 hq hq1 hq2 hq3 hq4 hq5 hq6
      generalize textB V = e2 at HT2 HM HT4 hq hq1 hq2 hq3 hq4 hq5 hq6
      generalize textB N = e3 at HT3 HM HT4 hq hq1 hq2 hq3 hq4 hq5 hq6
      generalize textB (e1 ++ e2 ++ e3) = e4 at HT4 HM hq hq1
      generalize hS1 : partL fragB fa (k + 1) = S1 at HM hl1 hq
      have HS1 := hid hS1
      clear hS1
      generalize partL fragB fa k = S at HM hl0 hq ⊢
      have q0 : S.size ≤ 90000 := by omega
      have q1 : (e1 ++ e2).size ≤ 90000 := by omega
      have q2 : (e1 ++ e2 ++ e3).size ≤ 90000 := by omega
      have q4 : e4.size ≤ 90000 := by omega
      have q5 : e1.size ≤ 90000 := by omega
      have q6 : e2.size ≤ 90000 := by omega
      have q7 : e3.size ≤ 90000 := by omega
      clear hq hq1 hq2 hq3 hq4 hq5 hq6 hl0 hl1 hS
      go_wp2_with fail
      simp only [Tryz.sizeOf79, Result.andThen]
      rw [Oper.upon_value]
      go_wp2_with fail
      simp only [Tryz.isAgg79, Tryz.sizeOf79, Result.andThen, ↓reduceIte, run_loadCells_at HG.out 67 hzs.out]
      rw [Oper.upon_value]
      go_wp2_with fail
      have HB3 := hid (Blk.new wr 79 fragZ)
      simp only [Tryz.sizeOf79, Result.andThen, ↓reduceIte, run_storeCells_blk HB3.out (by rw [hzs.out]; exact frag_size) (by rw [hzs.out, fragZ_size]) HOn.out, hzs.out]
      rw [Oper.upon_skip]
      rw [World.setRow_alloc_new]
      have HB2 := hid (Blk.new wr 79 arr)
      have HE2 := hid (hE.out.trans (Ext.alloc wr (.cells arr 79)))
      have HX2 := hid (HXr.out.trans (Ext.alloc wr (.cells arr 79)))
      clear HB3
      generalize wr.alloc (.cells arr 79) = w2 at HB2 HE2 HX2 ⊢
      have cf := HB2.out.cell HF0.out
      have cn := HB2.out.cell HF66.out
      have bl := HB2.out.lt
      have HV2 := hid (fun j v (h : X[j]? = some v) => HB2.out.cell (HFv.out j v h))
      clear HF0 HF66 HFv HG hzs HOn HXr hE lr1 z0 y1
      go_wp2_with fail
      dsimp only [Act.put]
      refine wp_region_any_order (by kernel_rfl) (by kernel_rfl) (by kernel_rfl) ?_
      repeat (first
        | (refine AWq.val rfl rfl rfl rfl (fun K hK => ?_); go_big_quiet_op; refine hK _ ?_; clear hK K)
        | (refine AWq.skip rfl rfl rfl ?_; simp only [Act.put, List.setIfInBounds_toArray, List.set_cons_succ, List.set_cons_zero])
        | (refine AWq.val rfl rfl rfl rfl (fun K hK => ?_); refine quiet_load_at rfl rfl (fun wc hwc => by obtain ⟨E, rfl⟩ := hwc; exact vec_loadVar hz1.out (fun j v hv => (Ext.of_wext _ _).cell (HV2.out j v hv))) (hK _ ?_); clear hK K; simp only [Act.put, List.setIfInBounds_toArray, List.set_cons_succ, List.set_cons_zero])
        | (refine AWq.call rfl Tryz.func49 (by kernel_rfl) (by kernel_rfl) rfl rfl rfl ?_; apply Exists.intro; refine And.intro (fun wc hc => ?_) ?_; (· (simp only [argsOf, anyAt, ↓reduceIte, Nat.reduceEqDiff, Array.getD_eq_getD_getElem?, List.getElem?_toArray, List.getElem?_cons_succ, List.getElem?_cons_zero, Option.getD_some]; with_reducible exact (HFl _ (HX2.out.trans hc)).out)); simp only [Act.put, List.setIfInBounds_toArray, List.set_cons_succ, List.set_cons_zero])
        | (refine AWq.callQ ((RowAt Ver.cells 2 ends)) ((fun v _ _ he h => RowAt.ext h he)) rfl Tryz.func51 (by kernel_rfl) (by kernel_rfl) rfl rfl rfl (fun wc hc => ?_) ?_; (· (simp only [argsOf, anyAt, ↓reduceIte, Nat.reduceEqDiff, Array.getD_eq_getD_getElem?, List.getElem?_toArray, List.getElem?_cons_succ, List.getElem?_cons_zero, Option.getD_some]; exact (HEn wc).out)))
        | (refine AWq.call rfl Tryz.func50 (by kernel_rfl) (by kernel_rfl) rfl rfl rfl ?_; apply Exists.intro; refine And.intro (fun wc hc => ?_) ?_; (· (simp only [argsOf, anyAt, ↓reduceIte, Nat.reduceEqDiff, Array.getD_eq_getD_getElem?, List.getElem?_toArray, List.getElem?_cons_succ, List.getElem?_cons_zero, Option.getD_some]; with_reducible exact (HVn _ (HX2.out.trans hc)).out)); simp only [Act.put, List.setIfInBounds_toArray, List.set_cons_succ, List.set_cons_zero])
        | (refine AWq.call rfl Tryz.func50 (by kernel_rfl) (by kernel_rfl) rfl rfl rfl ?_; apply Exists.intro; refine And.intro (fun wc hc => ?_) ?_; (· (simp only [argsOf, anyAt, ↓reduceIte, Nat.reduceEqDiff, Array.getD_eq_getD_getElem?, List.getElem?_toArray, List.getElem?_cons_succ, List.getElem?_cons_zero, Option.getD_some]; intro y hy; exact (HVv _ _ hy.1).out)); simp only [Act.put, List.setIfInBounds_toArray, List.set_cons_succ, List.set_cons_zero])
        | (refine AWq.call rfl Tryz.func48 (by kernel_rfl) (by kernel_rfl) rfl rfl rfl ?_; apply Exists.intro; refine And.intro (fun wc hc => ?_) ?_; (· (simp only [argsOf, anyAt, ↓reduceIte, Nat.reduceEqDiff, Array.getD_eq_getD_getElem?, List.getElem?_toArray, List.getElem?_cons_succ, List.getElem?_cons_zero, Option.getD_some]; with_reducible exact (HT1 _).out)); simp only [Act.put, List.setIfInBounds_toArray, List.set_cons_succ, List.set_cons_zero])
        | (refine AWq.call rfl Tryz.func48 (by kernel_rfl) (by kernel_rfl) rfl rfl rfl ?_; apply Exists.intro; refine And.intro (fun wc hc => ?_) ?_; (· (simp only [argsOf, anyAt, ↓reduceIte, Nat.reduceEqDiff, Array.getD_eq_getD_getElem?, List.getElem?_toArray, List.getElem?_cons_succ, List.getElem?_cons_zero, Option.getD_some]; with_reducible exact (HT2 _).out)); simp only [Act.put, List.setIfInBounds_toArray, List.set_cons_succ, List.set_cons_zero])
        | (refine AWq.call rfl Tryz.func48 (by kernel_rfl) (by kernel_rfl) rfl rfl rfl ?_; apply Exists.intro; refine And.intro (fun wc hc => ?_) ?_; (· (simp only [argsOf, anyAt, ↓reduceIte, Nat.reduceEqDiff, Array.getD_eq_getD_getElem?, List.getElem?_toArray, List.getElem?_cons_succ, List.getElem?_cons_zero, Option.getD_some]; with_reducible exact (HT3 _).out)); simp only [Act.put, List.setIfInBounds_toArray, List.set_cons_succ, List.set_cons_zero])
        | (refine AWq.call rfl Tryz.func48 (by kernel_rfl) (by kernel_rfl) rfl rfl rfl ?_; apply Exists.intro; refine And.intro (fun wc hc => ?_) ?_; (· (simp only [argsOf, anyAt, ↓reduceIte, Nat.reduceEqDiff, Array.getD_eq_getD_getElem?, List.getElem?_toArray, List.getElem?_cons_succ, List.getElem?_cons_zero, Option.getD_some]; with_reducible exact (HT4 _).out)); simp only [Act.put, List.setIfInBounds_toArray, List.set_cons_succ, List.set_cons_zero]))
      refine AWq.done rfl rfl rfl (fun w5 x5 => ?_)
      simp only [closeAny, Act.put, List.setIfInBounds_toArray, List.set_cons_succ, List.set_cons_zero]
      rintro x9 -
      rw [HM.out]
      clear cf cn bl q1 q2 q4 q5 q6 q7 q0 HT1 HT2 HT3 HT4 HM HFl HVn HVv HEn HV2
      go_wp2_with fail
      go_roundw
      case rel => exact ⟨k + 1, by omega, by rw [HS1.out], by go_num, HE2.out.trans x5⟩
      case measure => simp [intOf]; omega
    · obtain rfl : k = cs.length := by omega
      have hA := partL_all fragB fa
      rw [← HCL.out] at hA
      rw [hA]
      have hs1 := HSz.out
      have HTa := fun W => HTx W (listB fragB fa) (by omega)
      have z1 := (HB1.out.ext hE.out).cell (i := 1) rfl
      clear hk1 hk HRf H3 hca HPl hA
      generalize hSA : listB fragB fa = SA at HTa hs1 HSz ⊢
      have HSA := hid hSA
      clear hSA
      go_wp2_with fail
      refine ((HN2 _).out).mono ?_
      rintro en w2 ⟨rfl, x2⟩
      have HE2 := hid (hE.out.trans x2)
      clear x2 z0 z1 y1 HN2 hE HXr
      go_wp2_with fail
      go_loopw [6, 7] (fun s6 s7 wq => ∃ j : Nat, j ≤ ia.length ∧ s6 = .string (partL knownB ia j) ∧ s7 = .int .i64 j ∧ Hid (Ext w0 wq)) (fun _ s7 _ => ia.length - (intOf s7).toNat)
      case atStart => exact ⟨0, by omega, rfl, rfl, HE2⟩
      case round =>
        obtain ⟨j, hj, rfl, rfl, hQ⟩ := hrel
        clear HE2
        have z1 := (HB1.out.ext hQ.out).cell (i := 1) rfl
        have y1 := (HB1.out.ext hQ.out).lt
        have HXq := hid (HX.out.trans hQ.out)
        by_cases hja : j < ia.length
        · have d1 : decide ((j : Int) < ia.length) = true := decide_eq_true (by omega)
          have d1' : decide (j < ia.length) = true := decide_eq_true hja
          obtain ⟨b1, o1, rfl, lb1, g1⟩ := P3.out (by omega)
          have ho := HRo.out.ks ia[j] (List.getElem_mem hja)
          have ci1 := HXq.out.cell (g1 j hja 0 _ rfl)
          have ci2 := HXq.out.cell (g1 j hja 1 _ rfl)
          have HV2 := hid (fun q v (h : (vecV ia[j].v)[q]? = some v) => (Nat.add_assoc (o1 + j * 67) 2 q) ▸ HXq.out.cell (g1 j hja (2 + q) v (known_v ia[j] q v h)))
          have hz1 := hid (show (vecV ia[j].v).size = 65 by rw [vecV_size]; exact ia[j].hv)
          have HEn := fun W => hid (rends_c W ia[j].v ia[j].hv)
          have lr1 := Nat.lt_of_lt_of_le lb1 HXq.out.size
          have HM := hid (partL_next knownB hja)
          have hl0 := HQl j
          have hl1 := HQl (j + 1)
          rw [Nat.add_zero] at ci1
          clear g1 lb1 P3 HRo HQl HTa
          generalize ia[j] = x at ci1 ci2 HV2 hz1 HEn HM ho
          have hi := ho.i
          unfold ver64 at hi
          have HVr := fun W => hid (rver_c W x.i hi.1 hi.2)
          unfold Ver.val at HVr
          have HVv := fun W u (hu : Sl W 2 u ((endsL x.v).map Ver.cells)) => hid (rvers_c W u (endsL x.v) hu (by have := endsL_len x.v; omega) (fun y hy => ver64_ok (endsL_ok ho.v y hy)))
          have hm : knownB x = verB x.i ++ textB (listB verB (endsL x.v)) := rfl
          rw [hm] at HM
          have hq := congrArg ByteArray.size HM.out
          rw [ByteArray.size_append] at hq
          have hq1 := textB_ge (verB x.i ++ textB (listB verB (endsL x.v)))
          have hq3 := textB_ge (listB verB (endsL x.v))
          have hq5 : (verB x.i ++ textB (listB verB (endsL x.v))).size = (verB x.i).size + (textB (listB verB (endsL x.v))).size := by rw [ByteArray.size_append]
          have HT2 := fun W => HTx W (listB verB (endsL x.v)) (by omega)
          have HT4 := fun W => HTx W (verB x.i ++ textB (listB verB (endsL x.v))) (by omega)
          clear ho hm hi HTx
          generalize vecV x.v = X at HV2 hz1 HEn
          generalize endsL x.v = ends at HEn HVv HM HT2 HT4 hq hq1 hq3 hq5
          generalize listB verB ends = V at HVv HM HT2 HT4 hq hq1 hq3 hq5
          generalize verB x.i = e1 at HVr HM HT4 hq hq1 hq3 hq5
          generalize textB V = e2 at HT2 HM HT4 hq hq1 hq3 hq5
          generalize textB (e1 ++ e2) = e4 at HT4 HM hq hq1
          generalize hS1 : partL knownB ia (j + 1) = S1 at HM hl1 hq
          have HS1 := hid hS1
          clear hS1
          generalize partL knownB ia j = S at HM hl0 hq ⊢
          have q0 : S.size ≤ 90000 := by omega
          have q1 : (e1 ++ e2).size ≤ 90000 := by omega
          have q4 : e4.size ≤ 90000 := by omega
          have q5 : e1.size ≤ 90000 := by omega
          have q6 : e2.size ≤ 90000 := by omega
          clear hq hq1 hq3 hq5 hl0 hl1 hs1 HSz
          go_wp2_with fail
          refine wp_region_any_order (by kernel_rfl) (by kernel_rfl) (by kernel_rfl) ?_
          repeat (first
            | (refine AWq.val rfl rfl rfl rfl (fun K hK => ?_); go_big_quiet_op; refine hK _ ?_; clear hK K)
            | (refine AWq.skip rfl rfl rfl ?_; simp only [Act.put, List.setIfInBounds_toArray, List.set_cons_succ, List.set_cons_zero])
            | (refine AWq.val rfl rfl rfl rfl (fun K hK => ?_); refine quiet_load_at rfl rfl (fun wc hwc => by obtain ⟨E, rfl⟩ := hwc; exact vec_loadVar hz1.out (fun j v hv => (Ext.of_wext _ _).cell (HV2.out j v hv))) (hK _ ?_); clear hK K; simp only [Act.put, List.setIfInBounds_toArray, List.set_cons_succ, List.set_cons_zero])
            | (refine AWq.call rfl Tryz.func52 (by kernel_rfl) (by kernel_rfl) rfl rfl rfl ?_; apply Exists.intro; refine And.intro (fun wc hc => ?_) ?_; (· (simp only [argsOf, anyAt, ↓reduceIte, Nat.reduceEqDiff, Array.getD_eq_getD_getElem?, List.getElem?_toArray, List.getElem?_cons_succ, List.getElem?_cons_zero, Option.getD_some]; with_reducible exact (HVr _).out)); simp only [Act.put, List.setIfInBounds_toArray, List.set_cons_succ, List.set_cons_zero])
            | (refine AWq.callQ ((RowAt Ver.cells 2 ends)) ((fun v _ _ he h => RowAt.ext h he)) rfl Tryz.func51 (by kernel_rfl) (by kernel_rfl) rfl rfl rfl (fun wc hc => ?_) ?_; (· (simp only [argsOf, anyAt, ↓reduceIte, Nat.reduceEqDiff, Array.getD_eq_getD_getElem?, List.getElem?_toArray, List.getElem?_cons_succ, List.getElem?_cons_zero, Option.getD_some]; exact (HEn wc).out)))
            | (refine AWq.call rfl Tryz.func50 (by kernel_rfl) (by kernel_rfl) rfl rfl rfl ?_; apply Exists.intro; refine And.intro (fun wc hc => ?_) ?_; (· (simp only [argsOf, anyAt, ↓reduceIte, Nat.reduceEqDiff, Array.getD_eq_getD_getElem?, List.getElem?_toArray, List.getElem?_cons_succ, List.getElem?_cons_zero, Option.getD_some]; intro y hy; exact (HVv _ _ hy.1).out)); simp only [Act.put, List.setIfInBounds_toArray, List.set_cons_succ, List.set_cons_zero])
            | (refine AWq.call rfl Tryz.func48 (by kernel_rfl) (by kernel_rfl) rfl rfl rfl ?_; apply Exists.intro; refine And.intro (fun wc hc => ?_) ?_; (· (simp only [argsOf, anyAt, ↓reduceIte, Nat.reduceEqDiff, Array.getD_eq_getD_getElem?, List.getElem?_toArray, List.getElem?_cons_succ, List.getElem?_cons_zero, Option.getD_some]; with_reducible exact (HT2 _).out)); simp only [Act.put, List.setIfInBounds_toArray, List.set_cons_succ, List.set_cons_zero])
            | (refine AWq.call rfl Tryz.func48 (by kernel_rfl) (by kernel_rfl) rfl rfl rfl ?_; apply Exists.intro; refine And.intro (fun wc hc => ?_) ?_; (· (simp only [argsOf, anyAt, ↓reduceIte, Nat.reduceEqDiff, Array.getD_eq_getD_getElem?, List.getElem?_toArray, List.getElem?_cons_succ, List.getElem?_cons_zero, Option.getD_some]; with_reducible exact (HT4 _).out)); simp only [Act.put, List.setIfInBounds_toArray, List.set_cons_succ, List.set_cons_zero]))
          refine AWq.done rfl rfl rfl (fun w5 x5 => ?_)
          simp only [closeAny, Act.put, List.setIfInBounds_toArray, List.set_cons_succ, List.set_cons_zero]
          rintro x9 -
          rw [HM.out]
          clear ci1 ci2 q1 q4 q5 q6 q0 HT2 HT4 HM HVr HVv HEn HV2 z1 y1 lr1
          go_wp2_with fail
          go_roundw
          case rel => exact ⟨j + 1, by omega, by rw [HS1.out], by go_num, hQ.out.trans x5⟩
          case measure => simp [intOf]; omega
        · obtain rfl : j = ia.length := by omega
          rw [partL_all]
          have hs2 := HSz.out
          have HTb := fun W => HTx W (listB knownB ia) (by omega)
          clear hja hj P3 HRo HQl HTx HSz
          generalize hSB : listB knownB ia = SB at HTb hs1 hs2 ⊢
          generalize hea : textB SA = ea at HTa hs1 hs2 ⊢
          generalize heb : textB SB = eb at HTb hs1 hs2 ⊢
          have HSB := hid hSB
          have Hea := hid hea
          have Heb := hid heb
          clear hSB hea heb
          obtain ⟨q1, q2, -, -⟩ := hs2
          clear hs1
          go_wp2_with fail
          refine ((HTa _).out).mono ?_
          rintro en w5 ⟨rfl, x5⟩
          have X5 := hid x5
          clear x5
          go_wp2_with fail
          refine ((HTb _).out).mono ?_
          rintro en w6 ⟨rfl, x6⟩
          have X6 := hid (X5.out.trans x6)
          clear x6
          go_wp2_with fail
          go_ret
          exact ⟨by rw [HSA.out, HSB.out, Hea.out, Heb.out]; rfl, HXq.out.trans X6.out⟩
end Go.Proofs.YtmbgakjkhgdjnaaGreatDoor
