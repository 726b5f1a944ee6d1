/-
  diff.Play: each turn of a kind.
-/
import Derived.Test.YtgkdiknmjgpgmaaPlB
namespace Go.Proofs.Ytgkdiknmjgpgmaa
set_option linter.unusedSimpArgs false
set_option linter.unusedVariables false
open Go.RowKit Go.Maps

theorem foldK_take (st : SMap → TurnI → SMap) (p : TurnI → Bool) (l : List TurnI) (k : Nat) (h : k < l.length) (m : SMap) : ((l.take (k + 1)).filter p).foldl st m = if p l[k] then st (((l.take k).filter p).foldl st m) l[k] else ((l.take k).filter p).foldl st m := by
  rw [List.take_succ_eq_append_getElem h, List.filter_append, List.foldl_append, List.filter_cons, List.filter_nil]
  cases p l[k] <;> rfl
theorem Sl.keep {w w' : World} {S : Nat → Prop} {sz : Nat} {v : Value} {xs : List (List Value)} (h : Sl w sz v xs) (he : Keep S w w') (hs : 0 < xs.length → ∀ b o n c, v = .slice (some ⟨b, o, none⟩) n c → ¬ S b) : Sl w' sz v xs := by
  obtain ⟨A, c, h1, h2, h3, h4⟩ := h
  refine ⟨A, c, h1, h2, h3, fun hn => ?_⟩
  obtain ⟨b, o, h5, h6, h7⟩ := h4 hn
  refine ⟨b, o, h5, Nat.lt_of_lt_of_le h6 he.size, fun k x j u hx hu => ?_⟩
  have hb := he.block b h6 (hs hn b o _ _ (by rw [h1, h5]))
  have := h7 k x j u hx hu
  unfold World.cell? at this ⊢
  rw [hb]
  exact this
set_option maxRecDepth 100000 in
set_option maxHeartbeats 2000000 in
theorem each_c (w : World) (f : Nat) (caps : Array Value) (k1 k2 : Int) (st : SMap → TurnI → SMap) (qb b n0 : Nat) (v : Value) (l : List TurnI) (D0 : DataW Value) (m0 : SMap) (hv : Sl w 4 v (l.map TurnI.cells)) (hvb : 0 < l.length → ∀ b' o n c, v = .slice (some ⟨b', o, none⟩) n c → b' ≠ b)
    (hq : Blk w qb 49 #[v]) (hqb : qb ≠ b) (ho : w.ownsMap Try.prog 9 RS b n0 D0) (hm : SIs D0 m0) (hl : l.length ≤ 1000) (hn0 : n0 ≤ 10000)
    (hcf : ∀ (args : Array Value) (W : World), (callFunc f args).run Try.prog W = .ok (.enter f args) W)
    (HDo : ∀ W n D m t, t ∈ l → Keep (fun q => q = b) w W → W.ownsMap Try.prog 9 RS b n D → SIs D m → n < 1000000 → Hid (Calls Try.prog f (#[.agg #[.int .i64 t.kind, .string t.name, .string t.from_, .string t.d]] ++ caps) W (Left W b (n + 1) (st m t)))) :
    Calls Try.prog 51 #[.agg #[.int .i64 k1, .int .i64 k2], .func (.func f) #[] caps, .pointer (some ⟨qb, 0, none⟩)] w (Left w b (n0 + 1000) (((l.filter (kindB k1 k2)).foldl st m0))) := by
  have HS := hid hv
  have HVb := hid hvb
  obtain ⟨A, c, rfl, h1, h2, h3⟩ := sl_get hv
  unfold maxLen at h2
  have q0 := hq.cell (i := 0) (v := .slice A l.length c) rfl
  have lq := hq.lt
  have hblt := ho.lt
  have HO := hid ho
  have HM := hid hm
  have HD := hid HDo
  clear hv hvb ho hm hq HDo
  go_enter Try.func51, Try.ntmps51
  go_wp2_with fail
  have hE0 := Ext.alloc w (.cells #[.int .i64 k1, .int .i64 k2] 73)
  have hB0 := Blk.new w 73 #[.int .i64 k1, .int .i64 k2]
  have HO0 := hid (ownsMap_ext HO.out hE0)
  generalize w.alloc (.cells #[.int .i64 k1, .int .i64 k2] 73) = w0 at hE0 hB0 HO0 ⊢
  obtain ⟨g, hg⟩ : ∃ g, g = w.heap.size := ⟨_, rfl⟩
  have hgb : g ≠ b := by omega
  rw [← hg] at hB0 ⊢
  clear hg q0 lq
  have HB0 := hid hB0
  have HE0 := hid hE0
  clear hE0 hB0
  go_loopw [9] (fun i wr => ∃ (k n : Nat) (D : DataW Value), k ≤ l.length ∧ i = .int .i64 k ∧ n ≤ n0 + k ∧ Keep (fun q => q = b) w0 wr ∧ wr.ownsMap Try.prog 9 RS b n D ∧ SIs D (((l.take k).filter (kindB k1 k2)).foldl st m0)) (fun i _ => l.length - (intOf i).toNat)
  case atStart => exact ⟨0, n0, D0, by omega, rfl, by omega, Keep.refl _ _, HO0.out, HM.out⟩
  case round =>
    obtain ⟨k, n, D, hk, rfl, hn, hK, hoD, hmD⟩ := hrel
    have HK := hid hK
    have HKw := hid ((Keep.of_ext HE0.out).trans hK)
    have HOD := hid hoD
    have HMD := hid hmD
    by_cases hlt : k < l.length
    · have hsr := HS.out.keep HKw.out (fun _ b' o n c e => HVb.out (by omega) b' o n c e)
      obtain ⟨A', c', hA, _, _, h3r⟩ := sl_get hsr
      injection hA with hA _ hc
      subst hA; subst hc
      obtain ⟨b', o, rfl, lbr, hcell⟩ := h3r (by omega)
      have c0 := hcell k hlt 0 _ rfl
      have c1 := hcell k hlt 1 _ rfl
      have c2 := hcell k hlt 2 _ rfl
      have c3 := hcell k hlt 3 _ rfl
      rw [Nat.add_zero] at c0
      have hB := HB0.out.keep hK hgb
      have g0 := hB.cell (i := 0) (v := .int .i64 k1) rfl
      have g1 := hB.cell (i := 1) (v := .int .i64 k2) rfl
      have lg := hB.lt
      have HF := hid (foldK_take st (kindB k1 k2) l k hlt m0)
      have hE1 := Ext.alloc wr (.cells #[.int .i64 l[k].kind, .string l[k].name, .string l[k].from_, .string l[k].d] 58)
      have HCall := HD.out _ n D _ l[k] (List.getElem_mem hlt) (HKw.out.trans (Keep.of_ext hE1)) (ownsMap_ext hoD hE1) hmD (by omega)
      have HO1 := hid (ownsMap_ext hoD hE1)
      have HK1 := hid (hK.trans (Keep.of_ext hE1))
      clear hcell h3r hsr hB hK hoD hmD h3 hE1
      generalize l[k] = t at c0 c1 c2 c3 HF HCall HO1 HK1
      generalize ((l.take k).filter (kindB k1 k2)).foldl st m0 = m at HMD HF HCall
      by_cases e1 : t.kind = k1
      · have d1 : (t.kind == k1) = true := by simp [e1]
        have hb : kindB k1 k2 t = true := by simp [kindB, e1]
        rw [hb, if_pos rfl] at HF
        clear e1 hb
        go_wp2_with fail
        refine HCall.out.mono ?_
        rintro e w5 ⟨rfl, D', ho5, hm5, hk5⟩
        have HO5 := hid ho5
        have HM5 := hid hm5
        have HK5 := hid (HK1.out.trans hk5)
        clear ho5 hm5 hk5
        go_wp2_with fail
        go_roundw
        case rel => exact ⟨k + 1, n + 1, D', by omega, by go_num, by omega, HK5.out, HO5.out, by rw [HF.out]; exact HM5.out⟩
        case measure => simp [intOf]; omega
      · have d1 : (t.kind == k1) = false := by simp [e1]
        by_cases e2 : t.kind = k2
        · have d2 : (t.kind == k2) = true := by simp [e2]
          have hb : kindB k1 k2 t = true := by simp [kindB, e2]
          rw [hb, if_pos rfl] at HF
          clear e1 e2 hb
          go_wp2_with fail
          refine HCall.out.mono ?_
          rintro e w5 ⟨rfl, D', ho5, hm5, hk5⟩
          have HO5 := hid ho5
          have HM5 := hid hm5
          have HK5 := hid (HK1.out.trans hk5)
          clear ho5 hm5 hk5
          go_wp2_with fail
          go_roundw
          case rel => exact ⟨k + 1, n + 1, D', by omega, by go_num, by omega, HK5.out, HO5.out, by rw [HF.out]; exact HM5.out⟩
          case measure => simp [intOf]; omega
        · have d2 : (t.kind == k2) = false := by simp [e2]
          have hb : kindB k1 k2 t = false := by simp [kindB, e1, e2]
          rw [hb] at HF
          simp only [Bool.false_eq_true, if_false] at HF
          clear e1 e2 hb
          go_wp2_with fail
          go_roundw
          case rel => exact ⟨k + 1, n, D, by omega, by go_num, by omega, HK1.out, HO1.out, by rw [HF.out]; exact HMD.out⟩
          case measure => simp [intOf]; omega
    · obtain rfl : k = l.length := by omega
      rw [List.take_length] at hmD
      have HMD := hid hmD
      clear hK hoD hmD h3
      go_wp2_with fail
      go_end0
      exact ⟨rfl, D, HOD.out.mono (by omega), HMD.out, HKw.out⟩
end Go.Proofs.Ytgkdiknmjgpgmaa
