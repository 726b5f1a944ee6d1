/-
  The document's Number and Text; leb.number.
  Reading: what is left of bytes, and an error (leb.In): Err, Left, fail, take, Over.
  Reading a number (leb.In.N).
  leb.Over.
-/
import Derived.Test.YtmbgakjkhgdjnaaGreatDoorQdD
import Derived.Test.YtmbgakjkhgdjnaaGreatDoorAwT
namespace Go.Proofs.YtmbgakjkhgdjnaaGreatDoor
set_option linter.unusedSimpArgs false
set_option linter.unusedVariables false
open Go.RowKit

/-- A number's bytes as a text. -/
def lebB (n : Nat) : ByteArray := ⟨(lebL n).toArray⟩
theorem lebB_small {n : Nat} (h : n ≤ 127) : lebB n = ⟨#[UInt8.ofNat n]⟩ := by unfold lebB; rw [lebL_small h]
theorem lebB_big {n : Nat} (h : 127 < n) : lebB n = ⟨#[UInt8.ofNat (n % 128 + 128)]⟩ ++ lebB (n / 128) := by
  unfold lebB
  rw [lebL_big h]
  apply ByteArray.ext
  simp
theorem lebB_size (n : Nat) : (lebB n).size = (lebL n).length := by simp [lebB, ByteArray.size]
theorem lebB_9 {n : Nat} (h : n < 9223372036854775808) : (lebB n).size ≤ 9 := by rw [lebB_size]; exact lebL_9 h
theorem conv_byte (w : World) (z : Int) : (convert 57 9 (.slice (some ⟨w.heap.size, 0, none⟩) 1 1)).run Tryz.prog (w.alloc (.cells #[.int .u8 z] 5)) = .ok (.string ⟨#[UInt8.ofNat z.toNat]⟩) (w.alloc (.cells #[.int .u8 z] 5)) := by
  rw [run_convert_bytes_string _ _ _ 5 _ _ _ Tryz.underlying57 Tryz.underlying5 Tryz.underlying9]
  rw [run_bytesToString _ _ _ _ [z] (by simp [go_sem])]
  rfl
/-- What the document lays of any number: of one below 0 a byte. -/
def numB (z : Int) : ByteArray := if z < 0 then ⟨#[UInt8.ofNat (z % 256).toNat]⟩ else lebB z.toNat
theorem numB_nat (n : Nat) : numB (n : Int) = lebB n := by unfold numB; rw [if_neg (by omega)]; rfl
theorem numB_9 {z : Int} (h : z ≤ 9223372036854775807) : (numB z).size ≤ 9 := by
  unfold numB
  by_cases h0 : z < 0
  · rw [if_pos h0]; show (1 : Nat) ≤ 9; omega
  · rw [if_neg h0]; exact lebB_9 (by omega)
set_option maxRecDepth 100000 in
set_option maxHeartbeats 2000000 in
theorem rnumber_c (w : World) (n : Nat) (hn : n < 9223372036854775808) : Calls Tryz.prog 47 #[.int .i64 n] w (Ret (.string (lebB n)) w) := by
  go_enter Tryz.func47, Tryz.ntmps47
  go_wp2_with fail
  go_loopw [0, 3] (fun s0 s3 wr => ∃ (m : Nat) (acc : ByteArray), m ≤ n ∧ s0 = .int .i64 m ∧ s3 = .string acc ∧ Hid (acc ++ lebB m = lebB n) ∧ Ext w wr) (fun s0 _ _ => (intOf s0).toNat)
  case atStart => exact ⟨n, ⟨#[]⟩, Nat.le_refl _, rfl, rfl, by unfold Hid; apply ByteArray.ext; simp, Ext.refl _⟩
  case round =>
    obtain ⟨m, acc, hm, rfl, rfl, hacc, hE⟩ := hrel
    have HE := hid hE
    have hsz : acc.size ≤ 9 := by
      have h1 := congrArg ByteArray.size hacc.out
      rw [ByteArray.size_append] at h1
      have := lebB_9 hn
      omega
    clear hE
    by_cases hb : 127 < m
    · have d0 : decide ((127 : Int) < m) = true := decide_eq_true (by omega)
      have d0' : decide (127 < m) = true := decide_eq_true hb
      have hc := fun W => conv_byte W ((m : Int) % 128 + 128)
      rw [show ((m : Int) % 128 + 128).toNat = m % 128 + 128 by omega] at hc
      have HS := hid hacc.out
      rw [lebB_big hb] at HS
      clear hacc
      generalize UInt8.ofNat (m % 128 + 128) = z at hc HS
      go_wp2_with fail
      go_roundw
      case rel => exact ⟨m / 128, acc ++ ⟨#[z]⟩, by omega, by go_num, rfl, by unfold Hid; rw [← HS.out]; apply ByteArray.ext; simp, HE.out.trans (Ext.alloc _ _)⟩
      case measure => simp [intOf]; omega
    · have d0 : decide ((127 : Int) < m) = false := decide_eq_false (by omega)
      have d0' : decide (127 < m) = false := decide_eq_false hb
      have hc := fun W => conv_byte W (m : Int)
      rw [show ((m : Int)).toNat = m by omega] at hc
      have HS := hid hacc.out
      rw [lebB_small (by omega)] at HS
      clear hacc
      generalize UInt8.ofNat m = z at hc HS
      go_wp2_with fail
      go_ret
      exact ⟨by rw [← HS.out]; rfl, HE.out.trans (Ext.alloc _ _)⟩
def textB (s : ByteArray) : ByteArray := lebB s.size ++ s
set_option maxRecDepth 100000 in
set_option maxHeartbeats 2000000 in
theorem rtext_c (w : World) (s : ByteArray) (hs : s.size ≤ 100000) : Calls Tryz.prog 48 #[.string s] w (Ret (.string (textB s)) w) := by
  have HN := fun W => hid (rnumber_c W s.size (by omega))
  have h9 := lebB_9 (n := s.size) (by omega)
  unfold textB
  generalize lebB s.size = p at HN h9 ⊢
  go_enter Tryz.func48, Tryz.ntmps48
  go_wp2_with fail
  refine ((HN _).out).mono ?_
  rintro e w1 ⟨rfl, x1⟩
  go_wp2_with fail
  go_ret
  exact ⟨rfl, x1⟩
set_option maxRecDepth 100000 in
set_option maxHeartbeats 2000000 in
theorem number_c (w : World) (n : Nat) (hn : n < 9223372036854775808) : Calls Tryz.prog 128 #[.int .i64 n] w (RetQ (OwnB (lebL n) w.heap.size) w) := by
  go_enter Tryz.func128, Tryz.ntmps128
  go_wp2_with fail
  go_loopw [0, 3] (fun s0 s3 wr => ∃ (m : Nat) (acc : List UInt8) (ov : Value), m ≤ n ∧ s0 = .int .i64 m ∧ ov = s3 ∧ Hid (acc ++ lebL m = lebL n) ∧ OwnB acc w.heap.size ov wr ∧ Ext w wr) (fun s0 _ _ => (intOf s0).toNat)
  case atStart => exact ⟨n, [], _, Nat.le_refl _, rfl, rfl, rfl, OwnB.nil _ _, Ext.refl _⟩
  case round =>
    obtain ⟨m, acc, v, hm, rfl, rfl, hacc, hO, hE⟩ := hrel
    have HE := hid hE
    have HO := hid hO
    have hsz : acc.length ≤ 9 := by
      have h1 := congrArg List.length hacc.out
      rw [List.length_append] at h1
      have := lebL_9 hn
      omega
    by_cases hb : 127 < m
    · have d0 : decide ((128 : Int) ≤ m) = true := decide_eq_true (by omega)
      have d0' : decide (128 ≤ m) = true := decide_eq_true (by omega)
      obtain ⟨v', w2, hrun, hO2, hk2⟩ := hO.push hE.size (UInt8.ofNat (m % 128 + 128)) (by omega)
      rw [show (((UInt8.ofNat (m % 128 + 128)).toNat : Nat) : Int) = (m : Int) % 128 + 128 by
        rw [UInt8.toNat_ofNat']
        omega] at hrun
      have HE2 : Hid (Ext w w2) := hk2.toExt hE fun q hq => (row_block hO.2 q hq).1
      have HO2 := hid hO2
      have HS := hid hacc.out
      rw [lebL_big hb] at HS
      clear hacc hO2 hk2 hO hE
      generalize UInt8.ofNat (m % 128 + 128) = z at HO2 HS
      go_wp2_with (at_builtin; refine wpList_app rfl (.tmp 6) (.tmp 11) _ _ rfl rfl rfl hrun ?_)
      go_roundw
      case rel => exact ⟨m / 128, acc ++ [z], _, by omega, by go_num, rfl, by unfold Hid; rw [← HS.out]; simp, HO2.out, HE2.out⟩
      case measure => simp [intOf]; omega
    · have d0 : decide ((128 : Int) ≤ m) = false := decide_eq_false (by omega)
      have d0' : decide (128 ≤ m) = false := decide_eq_false (by omega)
      obtain ⟨v', w2, hrun, hO2, hk2⟩ := hO.push hE.size (UInt8.ofNat m) (by omega)
      rw [show (((UInt8.ofNat m).toNat : Nat) : Int) = (m : Int) by
        rw [UInt8.toNat_ofNat']
        omega] at hrun
      have HE2 : Hid (Ext w w2) := hk2.toExt hE fun q hq => (row_block hO.2 q hq).1
      have HO2 := hid hO2
      have HS := hid hacc.out
      rw [lebL_small (by omega)] at HS
      clear hacc hO2 hk2 hO hE
      generalize UInt8.ofNat m = z at HO2 HS
      go_wp2_with (at_builtin; refine wpList_app rfl (.tmp 15) (.tmp 18) _ _ rfl rfl rfl hrun ?_)
      go_ret
      exact ⟨_, rfl, by rw [← HS.out]; exact HO2.out, HE2.out⟩
end Go.Proofs.YtmbgakjkhgdjnaaGreatDoor
namespace Go.Proofs.YtmbgakjkhgdjnaaGreatDoor
set_option linter.unusedSimpArgs false
set_option linter.unusedVariables false
open Go.RowKit

/-- What is left of bytes, and an error. -/
def InAt (w : World) (q : Nat) (s : ByteArray) (e : Int) : Prop := Blk w q 156 #[.string s, .int .i64 e]
theorem InAt.ext {w w' : World} {q : Nat} {s : ByteArray} {e : Int} (h : InAt w q s e) (he : Ext w w') : InAt w' q s e := Blk.ext h he
set_option maxHeartbeats 1000000 in
theorem err_c (w : World) (q : Nat) (s : ByteArray) (e : Int) (h : InAt w q s e) : Calls Tryz.prog 113 #[.pointer (some ⟨q, 0, none⟩)] w (Ret (.int .i64 e) w) := by
  have h : Blk w q 156 #[.string s, .int .i64 e] := h
  have c1 := h.cell (i := 1) (v := .int .i64 e) rfl
  have l1 := h.lt
  clear h
  go_enter Tryz.func113, Tryz.ntmps113
  go_wp2_with fail
  go_ret
  exact ⟨rfl, Ext.refl _⟩
def leftK (s : ByteArray) (e : Int) : Int := if e = 0 then s.size else 0
set_option maxRecDepth 100000 in
set_option maxHeartbeats 1000000 in
theorem left_c (w : World) (q : Nat) (s : ByteArray) (e : Int) (h : InAt w q s e) : Calls Tryz.prog 114 #[.pointer (some ⟨q, 0, none⟩)] w (Ret (.int .i64 (leftK s e)) w) := by
  have HE := hid (err_c w q s e h)
  have H : Hid (Blk w q 156 #[.string s, .int .i64 e]) := h
  clear h
  unfold leftK
  by_cases h0 : e = 0
  · subst h0
    rw [if_pos rfl]
    go_enter Tryz.func114, Tryz.ntmps114
    go_wp2_with fail
    refine (HE.out).mono ?_
    rintro e w1 ⟨rfl, x1⟩
    have X1 := hid x1
    have h := H.out.ext x1
    have c0 := h.cell (i := 0) (v := .string s) rfl
    have l0 := h.lt
    clear h x1
    go_wp2_with fail
    go_ret
    exact ⟨rfl, X1.out⟩
  · rw [if_neg h0]
    have d0 : (e != 0) = true := by simp [h0]
    go_enter Tryz.func114, Tryz.ntmps114
    go_wp2_with fail
    refine (HE.out).mono ?_
    rintro e w1 ⟨rfl, x1⟩
    have X1 := hid x1
    clear x1
    go_wp2_with fail
    go_ret
    exact ⟨rfl, X1.out⟩
def failK (e k : Int) : Int := if e = 0 then k else e
set_option maxRecDepth 100000 in
set_option maxHeartbeats 1000000 in
theorem fail_c (w : World) (q : Nat) (s : ByteArray) (e k : Int) (h : InAt w q s e) : Calls Tryz.prog 150 #[.pointer (some ⟨q, 0, none⟩), .int .i64 k] w (fun en w' => en = .returned (.tuple #[]) ∧ Keep (fun g => g = q) w w' ∧ InAt w' q s (failK e k)) := by
  have H : Hid (Blk w q 156 #[.string s, .int .i64 e]) := h
  have c1 := H.out.cell (i := 1) (v := .int .i64 e) rfl
  have z1 := H.out.frozen 1
  have l1 := H.out.lt
  clear h
  unfold failK
  by_cases h0 : e = 0
  · subst h0
    rw [if_pos rfl]
    go_enter Tryz.func150, Tryz.ntmps150
    go_wp2_with fail
    go_end0
    exact ⟨rfl, Keep.setCell (S := fun g => g = q) (Keep.refl _ _) (p := ⟨q, 1, none⟩) (.inl rfl) _, H.out.set 1 _⟩
  · rw [if_neg h0]
    have d0 : (e == 0) = false := by simp [h0]
    go_enter Tryz.func150, Tryz.ntmps150
    go_wp2_with fail
    go_end0
    exact ⟨rfl, Keep.refl _ _, H.out⟩
/-- What a reader gives, and what it leaves. -/
def Took (s : ByteArray) (e : Int) (k : Nat) (t s' : ByteArray) (e' : Int) : Prop :=
  (t = ⟨#[]⟩ ∧ s' = s ∧ e' ≠ 0 ∧ (e ≠ 0 ∨ s.size < k)) ∨ (e = 0 ∧ k ≤ s.size ∧ t = s.extract 0 k ∧ s' = s.extract k s.size ∧ e' = 0)
set_option maxRecDepth 100000 in
set_option maxHeartbeats 4000000 in
theorem take_c (w : World) (q : Nat) (s : ByteArray) (e : Int) (k : Nat) (h : InAt w q s e) (hs : s.size ≤ 1000000) (hk : k ≤ 9223372036854775807) : Calls Tryz.prog 109 #[.pointer (some ⟨q, 0, none⟩), .int .i64 k] w (fun en w' => ∃ t s' e', en = .returned (.string t) ∧ Keep (fun g => g = q) w w' ∧ InAt w' q s' e' ∧ Took s e k t s' e') := by
  have HLf := fun W (s' : ByteArray) (e' : Int) (h' : InAt W q s' e') => hid (left_c W q s' e' h')
  have HEr := fun W (s' : ByteArray) (e' : Int) (h' : InAt W q s' e') => hid (err_c W q s' e' h')
  have HFa := fun W (s' : ByteArray) (e' k' : Int) (h' : InAt W q s' e') => hid (fail_c W q s' e' k' h')
  have H := hid h
  clear h
  by_cases h0 : e = 0
  · subst h0
    by_cases hb : s.size < k
    · have d0 : decide ((s.size : Int) < k) = true := decide_eq_true (by omega)
      have d0' : decide (s.size < k) = true := decide_eq_true hb
      have HT : Hid (Took s 0 k ⟨#[]⟩ s 5) := .inl ⟨rfl, rfl, by decide, .inr hb⟩
      clear hb
      go_enter Tryz.func109, Tryz.ntmps109
      go_wp2_with fail
      refine ((HLf _ _ _ H.out).out).mono ?_
      rintro e w1 ⟨rfl, x1⟩
      have H1 := hid (H.out.ext x1)
      have K1 := hid (Keep.of_ext (S := fun g => g = q) x1)
      rw [show leftK s 0 = (s.size : Int) from if_pos rfl]
      clear x1
      go_wp2_with fail
      refine ((HFa _ _ _ 5 H1.out).out).mono ?_
      rintro e w2 ⟨rfl, k2, h2⟩
      have H2 := hid h2
      have K2 := hid (K1.out.trans k2)
      rw [show failK 0 5 = 5 from rfl] at H2
      clear k2 h2
      go_wp2_with fail
      refine ((HEr _ _ _ H2.out).out).mono ?_
      rintro e w3 ⟨rfl, x3⟩
      have H3 := hid (H2.out.ext x3)
      have K3 := hid (K2.out.ext x3)
      clear x3
      go_wp2_with fail
      go_ret
      exact ⟨_, _, _, rfl, K3.out, H3.out, HT.out⟩
    · have d0 : decide ((s.size : Int) < k) = false := decide_eq_false (by omega)
      have d0' : decide (s.size < k) = false := decide_eq_false hb
      have hks : k ≤ s.size := by omega
      have HT : Hid (Took s 0 k (s.extract 0 k) (s.extract k s.size) 0) := .inr ⟨rfl, hks, rfl, rfl, rfl⟩
      clear hb
      go_enter Tryz.func109, Tryz.ntmps109
      go_wp2_with fail
      refine ((HLf _ _ _ H.out).out).mono ?_
      rintro e w1 ⟨rfl, x1⟩
      have H1 := hid (H.out.ext x1)
      have K1 := hid (Keep.of_ext (S := fun g => g = q) x1)
      rw [show leftK s 0 = (s.size : Int) from if_pos rfl]
      clear x1
      go_wp2_with fail
      refine ((HEr _ _ _ H1.out).out).mono ?_
      rintro e w3 ⟨rfl, x3⟩
      have H3 := hid (H1.out.ext x3)
      have K3 := hid (K1.out.ext x3)
      have hB : Blk w3 q 156 #[.string s, .int .i64 0] := H3.out
      have c0 := hB.cell (i := 0) (v := .string s) rfl
      have z0 := hB.frozen 0
      have l0 := hB.lt
      clear x3 hB
      go_wp2_with fail
      go_ret
      exact ⟨_, _, _, rfl, K3.out.setCell (S := fun g => g = q) (p := ⟨q, 0, none⟩) (.inl rfl) _, Blk.set H3.out 0 _, HT.out⟩
  · have HT : Hid (Took s e k ⟨#[]⟩ s e) := .inl ⟨rfl, rfl, h0, .inl h0⟩
    have hd : (e != 0) = true := by simp [h0]
    have hl : leftK s e = 0 := if_neg h0
    have hf : failK e 5 = e := if_neg h0
    have HL0 := fun W (h' : InAt W q s e) => HLf W s e h'
    have HF0 := fun W (h' : InAt W q s e) => HFa W s e 5 h'
    rw [hl] at HL0
    rw [hf] at HF0
    clear hl hf HLf HFa h0
    rcases k with _ | k
    · go_enter Tryz.func109, Tryz.ntmps109
      go_wp2_with fail
      refine ((HL0 _ H.out).out).mono ?_
      rintro e w1 ⟨rfl, x1⟩
      have H1 := hid (H.out.ext x1)
      have K1 := hid (Keep.of_ext (S := fun g => g = q) x1)
      clear x1
      go_wp2_with fail
      refine ((HEr _ _ _ H1.out).out).mono ?_
      rintro e w3 ⟨rfl, x3⟩
      have H3 := hid (H1.out.ext x3)
      have K3 := hid (K1.out.ext x3)
      clear x3
      go_wp2_with fail
      go_ret
      exact ⟨_, _, _, rfl, K3.out, H3.out, HT.out⟩
    · have d0 : decide ((0 : Int) < (k : Int) + 1) = true := decide_eq_true (by omega)
      go_enter Tryz.func109, Tryz.ntmps109
      go_wp2_with fail
      refine ((HL0 _ H.out).out).mono ?_
      rintro e w1 ⟨rfl, x1⟩
      have H1 := hid (H.out.ext x1)
      have K1 := hid (Keep.of_ext (S := fun g => g = q) x1)
      clear x1
      go_wp2_with fail
      refine ((HF0 _ H1.out).out).mono ?_
      rintro e w2 ⟨rfl, k2, h2⟩
      have H2 := hid h2
      have K2 := hid (K1.out.trans k2)
      clear k2 h2
      go_wp2_with fail
      refine ((HEr _ _ _ H2.out).out).mono ?_
      rintro e w3 ⟨rfl, x3⟩
      have H3 := hid (H2.out.ext x3)
      have K3 := hid (K2.out.ext x3)
      clear x3
      go_wp2_with fail
      go_ret
      exact ⟨_, _, _, rfl, K3.out, H3.out, HT.out⟩
end Go.Proofs.YtmbgakjkhgdjnaaGreatDoor
namespace Go.Proofs.YtmbgakjkhgdjnaaGreatDoor
set_option linter.unusedSimpArgs false
set_option linter.unusedVariables false
open Go.RowKit

theorem cut_one {s : ByteArray} (h : 1 ≤ s.size) : ∃ c r, s.data.toList = c :: r ∧ s.extract 0 1 = ⟨#[c]⟩ ∧ (s.extract 1 s.size).data.toList = r := by
  cases hl : s.data.toList with
  | nil =>
    have : s.data.toList.length = s.size := by rw [Array.length_toList]; rfl
    rw [hl] at this
    simp at this
    omega
  | cons c r =>
    have hlen : s.data.toList.length = s.size := by rw [Array.length_toList]; rfl
    have hd : s.data = (c :: r).toArray := by rw [← hl]
    refine ⟨c, r, rfl, ?_, ?_⟩
    · apply ByteArray.ext
      rw [ByteArray.data_extract, hd]
      simp
    · rw [ByteArray.data_extract, hd]
      rw [hl] at hlen
      rw [← hlen]
      simp
/-- How far a number is read. -/
def Far (s : ByteArray) (e : Int) (i acc : Nat) (s' : ByteArray) (e' : Int) : Prop :=
  ∀ n rest, e = 0 → n < 9223372036854775808 → s.data.toList = lebL n ++ rest → ∃ m, s'.data.toList = lebL m ++ rest ∧ Reads n i acc m ∧ e' = 0
/-- A number is read. -/
def Read (s : ByteArray) (e : Int) (z : Nat) (s' : ByteArray) (e' : Int) : Prop :=
  ∀ n rest, e = 0 → n < 9223372036854775808 → s.data.toList = lebL n ++ rest → z = n ∧ s'.data.toList = rest ∧ e' = 0
theorem lebL_head {m : Nat} {c : UInt8} {r rest : List UInt8} (h : c :: r = lebL m ++ rest) : (127 < m ∧ c = UInt8.ofNat (m % 128 + 128) ∧ r = lebL (m / 128) ++ rest) ∨ (m ≤ 127 ∧ c = UInt8.ofNat m ∧ r = rest) := by
  by_cases hm : 127 < m
  · rw [lebL_big hm, List.cons_append] at h
    injection h with h1 h2
    exact .inl ⟨hm, h1, h2⟩
  · rw [lebL_small (by omega), List.cons_append, List.nil_append] at h
    injection h with h1 h2
    exact .inr ⟨by omega, h1, h2⟩
theorem far_lt {acc i : Nat} (h : acc < 128 ^ i) (c : Nat) : acc + c % 128 * 128 ^ i < 128 ^ (i + 1) := by
  have h2 : c % 128 < 128 := Nat.mod_lt _ (by omega)
  have h3 : c % 128 * 128 ^ i ≤ 127 * 128 ^ i := Nat.mul_le_mul_right _ (by omega)
  rw [Nat.pow_succ]
  omega
theorem far_63 {z i : Nat} (h : z < 128 ^ (i + 1)) (hi : i < 9) : z < 9223372036854775808 := by
  have h1 : (128 : Nat) ^ (i + 1) ≤ 128 ^ 9 := Nat.pow_le_pow_right (by omega) (by omega)
  have : (128 : Nat) ^ 9 = 9223372036854775808 := by decide
  omega
theorem or_step {acc i : Nat} (h : acc < 128 ^ i) (hi : i < 9) (c : Nat) : bits .or .i64 (acc : Int) (wrap64 ((c : Int) % 128 * 2 ^ (7 * i))) = ((acc + c % 128 * 128 ^ i : Nat) : Int) := by
  have e1 : wrap64 ((c : Int) % 128 * 2 ^ (7 * i)) = ((c % 128 * 128 ^ i : Nat) : Int) := by
    have := shl_group (m := c % 128) (i := i) (Nat.mod_lt _ (by omega)) hi
    rw [show (7 * (i : Int)).toNat = 7 * i by omega] at this
    rw [show ((c : Int) % 128) = ((c % 128 : Nat) : Int) by omega]
    rw [IntKind.wrap_i64] at this
    unfold wrap64
    rw [← this]
  rw [e1, bits_or_nat (by rw [or_group h]; exact far_63 (far_lt h c) hi), or_group h]
set_option maxRecDepth 100000 in
set_option maxHeartbeats 8000000 in
theorem n_c (w : World) (q : Nat) (s : ByteArray) (e : Int) (h : InAt w q s e) (hs : s.size ≤ 1000000) : Calls Tryz.prog 107 #[.pointer (some ⟨q, 0, none⟩)] w (fun en w' => ∃ (z : Nat) (s' : ByteArray) (e' : Int), en = .returned (.int .i64 z) ∧ z < 9223372036854775808 ∧ Keep (fun g => g = q) w w' ∧ InAt w' q s' e' ∧ s'.size ≤ s.size ∧ Read s e z s' e') := by
  have HTk := fun W (s' : ByteArray) (e' : Int) (h' : InAt W q s' e') (hs' : s'.size ≤ 1000000) => hid (take_c W q s' e' 1 h' hs' (by omega))
  have HFa := fun W (s' : ByteArray) (e' k' : Int) (h' : InAt W q s' e') => hid (fail_c W q s' e' k' h')
  have H := hid h
  clear h
  go_enter Tryz.func107, Tryz.ntmps107
  go_wp2_with fail
  go_loopw [3, 9] (fun s3 s9 wr => ∃ (i acc : Nat) (s' : ByteArray) (e' : Int), i ≤ 9 ∧ s9 = .int .i64 i ∧ s3 = .int .i64 acc ∧ acc < 128 ^ i ∧ Hid (Keep (fun g => g = q) w wr) ∧ Hid (InAt wr q s' e') ∧ s'.size ≤ s.size ∧ Hid (Far s e i acc s' e')) (fun _ s9 _ => 9 - (intOf s9).toNat)
  case atStart => exact ⟨0, 0, s, e, by omega, rfl, rfl, by omega, Keep.refl _ _, H.out, Nat.le_refl _, fun n rest h0 h1 h2 => ⟨n, h2, Reads.start n, h0⟩⟩
  case round =>
    obtain ⟨i, acc, s', e', hi, rfl, rfl, hacc, HK, HI, hs', HFar⟩ := hrel
    clear H
    by_cases h9 : i < 9
    · have d9 : decide ((i : Int) < 9) = true := decide_eq_true (by omega)
      have d9' : decide (i < 9) = true := decide_eq_true h9
      go_wp2_with fail
      refine ((HTk _ _ _ HI.out (by omega)).out).mono ?_
      rintro en w2 ⟨t, s2, e2, rfl, k2, h2, ht⟩
      have HK2 := hid (HK.out.trans k2)
      have HI2 := hid h2
      clear k2 h2 HTk
      rcases ht with ⟨rfl, rfl, he2, hw⟩ | ⟨rfl, h1, rfl, rfl, rfl⟩
      · have HR : Hid (Read s e 0 s2 e2) := fun n rest a0 a1 a2 => by
          obtain ⟨m, b1, _, b3⟩ := HFar.out n rest a0 a1 a2
          have hl : s2.data.toList.length = s2.size := by rw [Array.length_toList]; rfl
          rw [b1, List.length_append] at hl
          have := lebL_pos m
          rcases hw with hw | hw
          · exact absurd b3 hw
          · omega
        clear hw
        go_wp2_with fail
        go_ret
        exact ⟨0, _, _, rfl, by omega, HK2.out, HI2.out, hs', HR.out⟩
      · obtain ⟨c, r, c1, c2, c3⟩ := cut_one h1
        rw [c2]
        have hs2 : (s'.extract 1 s'.size).size ≤ s.size := by
          rw [ByteArray.size_extract]
          omega
        have hget : (⟨#[c]⟩ : ByteArray)[0]'(by show (0 : Nat) < 1; omega) = c := rfl
        have hor := or_step (acc := acc) (i := i) hacc h9 c.toNat
        have HOr := hid hor
        have hnew := far_lt hacc c.toNat
        have HNew := hid hnew
        clear hor hnew c2 h1
        generalize s'.extract 1 s'.size = s2 at HI2 c3 hs2
        by_cases hb : 128 ≤ c.toNat
        · have HF2 : Hid (Far s e (i + 1) (acc + c.toNat % 128 * 128 ^ i) s2 0) := fun n rest a0 a1 a2 => by
            obtain ⟨m, b1, b2, _⟩ := HFar.out n rest a0 a1 a2
            rw [c1] at b1
            rcases lebL_head b1 with ⟨m1, m2, m3⟩ | ⟨m1, m2, m3⟩
            · refine ⟨m / 128, by rw [c3, m3], ?_, rfl⟩
              have e1 : c.toNat % 128 = m % 128 := by rw [m2, UInt8.toNat_ofNat']; omega
              rw [e1]
              exact b2.step m1
            · exfalso
              rw [m2, UInt8.toNat_ofNat'] at hb
              omega
          have db : decide ((128 : Int) ≤ c.toNat) = true := decide_eq_true (by omega)
          clear c1 c3 HFar HI
          generalize hcn : c.toNat = cn at *
          clear hb
          go_wp2_with fail
          go_roundw
          case rel => exact ⟨i + 1, _, s2, 0, by omega, by go_num, by rw [HOr.out], HNew.out, HK2.out, HI2.out, hs2, HF2.out⟩
          case measure => simp [intOf]; omega
        · have db : decide ((128 : Int) ≤ c.toNat) = false := decide_eq_false (by omega)
          by_cases hz : c.toNat = 0 ∧ 0 < i
          · have HR : Hid (∀ z2 s3 e3, Read s e z2 s3 e3) := fun z2 s3 e3 n rest a0 a1 a2 => by
              obtain ⟨m, b1, b2, _⟩ := HFar.out n rest a0 a1 a2
              rw [c1] at b1
              exfalso
              rcases lebL_head b1 with ⟨m1, m2, m3⟩ | ⟨m1, m2, m3⟩
              · have h3 := hz.1
                rw [m2, UInt8.toNat_ofNat'] at h3
                omega
              · have h3 := hz.1
                rw [m2, UInt8.toNat_ofNat'] at h3
                have := b2.one hz.2
                omega
            obtain ⟨hz1, hz2⟩ := hz
            have dz : ((c.toNat : Int) == 0) = true := by simp [hz1]
            have di : decide ((0 : Int) < i) = true := decide_eq_true (by omega)
            have di' : decide (0 < i) = true := decide_eq_true hz2
            clear c1 c3 HFar HI hz1 hz2 HOr
            generalize hcn : c.toNat = cn at *
            clear hb
            go_wp2_with fail
            refine ((HFa _ _ _ 6 HI2.out).out).mono ?_
            rintro en w3 ⟨rfl, k3, h3⟩
            have HK3 := hid (HK2.out.trans k3)
            have HI3 := hid h3
            clear k3 h3
            go_wp2_with fail
            go_ret
            exact ⟨0, _, _, rfl, by omega, HK3.out, HI3.out, hs2, HR.out _ _ _⟩
          · have HR : Hid (Read s e (acc + c.toNat % 128 * 128 ^ i) s2 0) := fun n rest a0 a1 a2 => by
              obtain ⟨m, b1, b2, _⟩ := HFar.out n rest a0 a1 a2
              rw [c1] at b1
              rcases lebL_head b1 with ⟨m1, m2, m3⟩ | ⟨m1, m2, m3⟩
              · exfalso
                have h3 := hb
                rw [m2, UInt8.toNat_ofNat'] at h3
                omega
              · have e1 : c.toNat % 128 = m := by rw [m2, UInt8.toNat_ofNat']; omega
                exact ⟨by rw [e1]; exact b2.stop, by rw [c3, m3], rfl⟩
            have h63 : acc + c.toNat % 128 * 128 ^ i < 9223372036854775808 := far_63 HNew.out h9
            have H63 := hid h63
            clear h63 c1 c3 HFar HI
            have dzi : ((c.toNat : Int) == 0) = false ∨ decide (0 < i) = false := by
              by_cases h3 : c.toNat = 0
              · exact .inr (decide_eq_false fun h4 => hz ⟨h3, h4⟩)
              · exact .inl (by simp; omega)
            clear hz
            generalize hcn : c.toNat = cn at *
            clear hb
            cases dz : ((cn : Int) == 0) with
            | false =>
              go_wp2_with fail
              go_ret
              exact ⟨_, _, _, by rw [← HOr.out]; rfl, H63.out, HK2.out, HI2.out, hs2, HR.out⟩
            | true =>
              have di : decide (0 < i) = false := by
                rcases dzi with h3 | h3
                · rw [dz] at h3; cases h3
                · exact h3
              have di' : decide ((0 : Int) < i) = false := decide_eq_false (by have := of_decide_eq_false di; omega)
              clear dzi
              go_wp2_with fail
              go_ret
              exact ⟨_, _, _, by rw [← HOr.out]; rfl, H63.out, HK2.out, HI2.out, hs2, HR.out⟩
    · obtain rfl : i = 9 := by omega
      have HR : Hid (∀ z2 s3 e3, Read s e z2 s3 e3) := fun z2 s3 e3 n rest a0 a1 a2 => by
        obtain ⟨m, b1, b2, _⟩ := HFar.out n rest a0 a1 a2
        have := b2.lt a1 (by omega)
        omega
      clear HFar HTk
      go_wp2_with fail
      refine ((HFa _ _ _ 6 HI.out).out).mono ?_
      rintro en w3 ⟨rfl, k3, h3⟩
      have HK3 := hid (HK.out.trans k3)
      have HI3 := hid h3
      clear k3 h3
      go_wp2_with fail
      go_ret
      exact ⟨0, _, _, rfl, by omega, HK3.out, HI3.out, hs', HR.out _ _ _⟩
/-- A text is read. -/
def ReadT (s : ByteArray) (e : Int) (t s' : ByteArray) (e' : Int) : Prop :=
  ∀ (x : ByteArray) (rest : List UInt8), e = 0 → s.data.toList = lebL x.size ++ (x.data.toList ++ rest) → t = x ∧ s'.data.toList = rest ∧ e' = 0
theorem cut_text {s x : ByteArray} {rest : List UInt8} (h : s.data.toList = x.data.toList ++ rest) : x.size ≤ s.size ∧ s.extract 0 x.size = x ∧ (s.extract x.size s.size).data.toList = rest := by
  have hl : s.data.toList.length = s.size := by rw [Array.length_toList]; rfl
  have hx : x.data.toList.length = x.size := by rw [Array.length_toList]; rfl
  have hd : s.data = (x.data.toList ++ rest).toArray := by rw [← h]
  rw [h, List.length_append, hx] at hl
  refine ⟨by omega, ?_, ?_⟩
  · apply ByteArray.ext
    apply Array.ext'
    rw [ByteArray.data_extract, Array.toList_extract, h, List.extract_eq_take_drop, List.drop_zero, Nat.sub_zero, ← hx, List.take_left']
    rfl
  · rw [ByteArray.data_extract, Array.toList_extract, h, List.extract_eq_take_drop, ← hx, List.drop_left' rfl, hx, ← hl]
    rw [List.take_of_length_le (by omega)]
set_option maxRecDepth 100000 in
set_option maxHeartbeats 4000000 in
theorem t_c (w : World) (q : Nat) (s : ByteArray) (e : Int) (h : InAt w q s e) (hs : s.size ≤ 1000000) : Calls Tryz.prog 55 #[.pointer (some ⟨q, 0, none⟩)] w (fun en w' => ∃ (t s' : ByteArray) (e' : Int), en = .returned (.string t) ∧ t.size ≤ s.size ∧ Keep (fun g => g = q) w w' ∧ InAt w' q s' e' ∧ s'.size ≤ s.size ∧ ReadT s e t s' e') := by
  have HN := hid (n_c w q s e h hs)
  have HTk := fun W (s' : ByteArray) (e' : Int) (z : Nat) (h' : InAt W q s' e') (hs' : s'.size ≤ 1000000) (hz : z ≤ 9223372036854775807) => hid (take_c W q s' e' z h' hs' hz)
  clear h
  go_enter Tryz.func55, Tryz.ntmps55
  go_wp2_with fail
  refine (HN.out).mono ?_
  rintro en w1 ⟨z, s1, e1, rfl, hz, k1, h1, hs1, hr1⟩
  have HK1 := hid k1
  have HI1 := hid h1
  have HR1 := hid hr1
  clear k1 h1 hr1 HN
  go_wp2_with fail
  refine ((HTk _ _ _ z HI1.out (by omega) (by omega)).out).mono ?_
  rintro en w2 ⟨t, s2, e2, rfl, k2, h2, ht⟩
  have HK2 := hid (HK1.out.trans k2)
  have HI2 := hid h2
  clear k2 h2 HTk
  have ht1 : t.size ≤ s.size ∧ s2.size ≤ s.size := by
    rcases ht with ⟨rfl, rfl, _, _⟩ | ⟨_, h1, rfl, rfl, _⟩
    · exact ⟨Nat.zero_le _, hs1⟩
    · rw [ByteArray.size_extract, ByteArray.size_extract]
      omega
  have HR : Hid (ReadT s e t s2 e2) := fun x rest a0 a1 => by
    have hx : x.size ≤ s.size := by
      have hl : s.data.toList.length = s.size := by rw [Array.length_toList]; rfl
      have hx : x.data.toList.length = x.size := by rw [Array.length_toList]; rfl
      rw [a1, List.length_append, List.length_append, hx] at hl
      omega
    obtain ⟨b1, b2, b3⟩ := HR1.out x.size _ a0 (by omega) a1
    obtain ⟨c1, c2, c3⟩ := cut_text b2
    subst b1
    rcases ht with ⟨_, _, _, h4⟩ | ⟨_, _, rfl, rfl, rfl⟩
    · rcases h4 with h4 | h4
      · exact absurd b3 h4
      · omega
    · exact ⟨c2, c3, rfl⟩
  obtain ⟨ht1, ht2⟩ := ht1
  clear ht HR1
  go_wp2_with fail
  go_ret
  exact ⟨_, _, _, rfl, ht1, HK2.out, HI2.out, ht2, HR.out⟩
end Go.Proofs.YtmbgakjkhgdjnaaGreatDoor
namespace Go.Proofs.YtmbgakjkhgdjnaaGreatDoor
set_option linter.unusedSimpArgs false
set_option linter.unusedVariables false
open Go.RowKit

set_option maxRecDepth 100000 in
set_option maxHeartbeats 1000000 in
theorem over_c (w : World) (s : ByteArray) : Calls Tryz.prog 53 #[.string s] w (RetQ (fun v w' => ∃ q, v = .pointer (some ⟨q, 0, none⟩) ∧ w.heap.size ≤ q ∧ InAt w' q s 0) w) := by
  have HB := hid (Blk.new w 156 #[.string s, .int .i64 0])
  have HE := hid (Ext.alloc w (.cells #[.string s, .int .i64 0] 156))
  go_enter Tryz.func53, Tryz.ntmps53
  go_wp2_with fail
  go_ret
  exact ⟨_, rfl, ⟨_, rfl, Nat.le_refl _, HB.out⟩, HE.out⟩
end Go.Proofs.YtmbgakjkhgdjnaaGreatDoor
