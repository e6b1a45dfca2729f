/-
  PACKAGE nat: Parse.
-/
import Derived.Test.YtbjclfmplndkcaaGreatDoorNq
import Derived.Test.YtbjclfmplndkcaaGreatDoorNp
import Derived.Test.YtbjclfmplndkcaaGreatDoorPn
import Derived.Shelf.Strings.SlTrimAscii
set_option linter.unusedVariables false
set_option linter.unusedSimpArgs false
set_option linter.unnecessarySimpa false
namespace Go.Proofs.YtbjclfmplndkcaaGreatDoor
open Go.RowKit Pl Go.Sort Go.Lib

theorem Trim_any (l : List UInt8) (w : World) (hs : l.length ≤ 9223372036854775807) :
    Calls Tryz.prog 49 #[.string ⟨l.toArray⟩, .string ⟨#[48, 49, 50, 51, 52, 53, 54, 55, 56, 57]⟩] w fun e w' => e = .returned (.string ⟨(Lib.trimS l tenDigits).toArray⟩) ∧ Below w.heap.size w w' :=
  Any.strings_Trim_laid Tryz.lays160 (by kernel_rfl) ⟨l.toArray⟩ ⟨#[48, 49, 50, 51, 52, 53, 54, 55, 56, 57]⟩ w (by show l.toArray.size ≤ _; simpa using hs) (by decide) (ascii_of_all (by decide))

set_option maxHeartbeats 1000000 in
theorem Parse_no (l : List UInt8) (w : World) (hs : l.length ≤ 9223372036854775807) (hn : (parseN l).2 ≠ 0) :
    Calls Tryz.prog 36 #[.string ⟨l.toArray⟩] w fun e w' => e = .returned (.tuple #[.slice none 0 0, .int .i64 (parseN l).2]) ∧ Below w.heap.size w w' := by
  unfold parseN at *
  by_cases h1 : 65536 < l.length
  · rw [if_pos h1]
    clear hn
    go_enter Tryz.func36, Tryz.ntmps36
    go_wp2
    go_ret2
    exact ⟨rfl, Below.refl _ _⟩
  rw [if_neg h1] at *
  by_cases h2 : numeral l = true
  · rw [if_pos h2] at hn; exact absurd rfl hn
  rw [if_neg h2]
  clear hn
  by_cases h3 : l = []
  · subst h3
    go_enter Tryz.func36, Tryz.ntmps36
    go_wp2
    go_ret2
    exact ⟨rfl, Below.refl _ _⟩
  have T := Lib.hid (Trim_any l w hs)
  by_cases h4 : Lib.trimS l tenDigits = []
  · have h5 := (trim_nil l).1 h4
    rw [h4] at T
    -- a nought ahead of others
    have h6 : 1 < l.length ∧ l.head? = some 48 := by
      refine Classical.byContradiction fun e => h2 ?_
      unfold numeral
      rw [h5]
      have hne : l.isEmpty = false := by cases l with | nil => exact absurd rfl h3 | cons a l => rfl
      rw [hne]
      by_cases e1 : l.length = 1
      · simp [e1]
      · have : l.head? ≠ some 48 := fun k => e ⟨by have := List.length_pos_iff.2 h3; omega, k⟩
        simp [this]
    have h7 : 0 < l.length := by omega
    have h8 : l[0]'h7 = 48 := by
      have := h6.2
      rw [List.head?_eq_getElem?, List.getElem?_eq_getElem h7] at this
      simpa using this
    have h9 : (1 : Int) < (l.length : Int) := by omega
    have hE : l.isEmpty = false := by cases l with | nil => exact absurd rfl h3 | cons a l => rfl
    have h10 : (⟨l.toArray⟩ : ByteArray)[0]'(by show 0 < l.toArray.size; simpa using h7) = 48 := h8
    clear h6 h2 h5 h4 h8
    go_enter Tryz.func36, Tryz.ntmps36
    go_wp2_with fail
    refine T.out.mono ?_
    rintro e w1 ⟨rfl, hB⟩
    have HB := Lib.hid hB
    clear hB
    go_wp2
    go_ret2
    exact ⟨rfl, HB.out⟩
  · clear h2
    generalize Lib.trimS l tenDigits = t at *
    go_enter Tryz.func36, Tryz.ntmps36
    go_wp2_with fail
    refine T.out.mono ?_
    rintro e w1 ⟨rfl, hB⟩
    have HB := Lib.hid hB
    clear hB
    go_wp2
    go_ret2
    exact ⟨rfl, HB.out⟩

theorem str_drop (l : List UInt8) (k : Nat) : (⟨l.toArray⟩ : ByteArray).extract k l.length = ⟨(l.drop k).toArray⟩ := by
  apply ByteArray.ext
  simp only [ByteArray.data_extract, List.extract_toArray, List.extract_eq_take_drop]
  rw [List.take_of_length_le (by simp)]
theorem str_take (l : List UInt8) (k : Nat) : (⟨l.toArray⟩ : ByteArray).extract 0 k = ⟨(l.take k).toArray⟩ := by
  apply ByteArray.ext
  simp [ByteArray.data_extract]
theorem empty_drop (l : List UInt8) (k : Nat) (h : k < l.length) : (l.drop k).isEmpty = false := by
  cases hd : l.drop k with
  | nil => have := congrArg List.length hd; simp at this; omega
  | cons a r => rfl
theorem nine_pow {k : Nat} (h : k ≤ 9) : 10 ^ k ≤ 1000000000 := Nat.pow_le_pow_right (n := 10) (by omega) h
theorem below_bytes (w : World) (e : TypeId) (s : ByteArray) : Below w.heap.size w (Lib.bytesWorld w e s) := by
  have hb : Below w.heap.size w (w.drew.alloc (.cells (bytesCells w e s) e)) := (Below.refl _ _).drew.alloc (Nat.le_refl _) _
  unfold Lib.bytesWorld World.freeze
  rw [if_neg (by omega)]
  refine ⟨hb.os, hb.tape, hb.output, by have := hb.size; simpa using this, fun k hk => ?_⟩
  rw [← hb.block k hk]
  simp only [Array.getElem?_modify]
  rw [if_neg (by omega)]
theorem PUint_any (c : List UInt8) (h : c.all digit = true) (h0 : c ≠ []) (hl : c.length ≤ 9) (w : World) :
    Calls Tryz.prog 50 #[.string ⟨c.toArray⟩, .int .i64 10, .int .i64 32] w fun e w' => e = .returned (.tuple #[.int .u64 (undec c), .nilIface]) ∧ Below w.heap.size w w' := by
  refine (Tryz.strconv_ParseUint_10_at32_ok ⟨c.toArray⟩ (by show c.toArray.size ≤ _; simp; omega) (undec c) (parse_chunk c h h0 hl) w).mono ?_
  rintro e w' ⟨rfl, rfl | rfl⟩
  · exact ⟨rfl, Below.refl _ _⟩
  · exact ⟨rfl, below_bytes _ _ _⟩
set_option maxRecDepth 100000 in
set_option maxHeartbeats 2000000 in
theorem Parse_yes (l : List UInt8) (w : World) (hs : l.length ≤ 65536) (hn : numeral l = true) :
    Calls Tryz.prog 36 #[.string ⟨l.toArray⟩] w fun e w' => ∃ B d, e = .returned (.tuple #[.slice B (words (undec l)).length d, .int .i64 0]) ∧ Ow w' w.heap.size B d (words (undec l)) ∧ Below w.heap.size w w' := by
  have T := Trim_any l w (by omega)
  have hn' := hn
  unfold numeral at hn'
  simp only [Bool.and_eq_true, Bool.or_eq_true, Bool.not_eq_true', beq_iff_eq, bne_iff_ne] at hn'
  obtain ⟨⟨hE, hd⟩, hh⟩ := hn'
  rw [(trim_nil l).2 hd] at T
  have HT := Lib.hid T
  have HD := Lib.hid hd
  have h7 : 0 < l.length := by cases l with | nil => cases hE | cons a l => simp
  have hw := undec_words l hd hs
  have HW := Lib.hid hw
  have h8 : (l.length = 1 ∨ l[0]'h7 ≠ 48) := by
    rcases hh with h | h
    · exact .inl h
    · refine .inr fun e => h ?_
      rw [List.head?_eq_getElem?, List.getElem?_eq_getElem h7, e]
  have h10 : ((l.length : Int) ≤ 1) ∨ ¬ ((((⟨l.toArray⟩ : ByteArray)[0]'(by show 0 < l.toArray.size; simpa using h7)).toNat : Nat) : Int) = 48 := by
    rcases h8 with h | h
    · exact .inl (by omega)
    · refine .inr fun e => h ?_
      have e2 : (l[0]'h7).toNat = 48 := by exact_mod_cast e
      exact UInt8.toNat_inj.1 (by rw [e2]; rfl)
  clear T hd hn hh h8 hw
  rcases h10 with h10 | h10
  all_goals
    go_enter Tryz.func36, Tryz.ntmps36
    go_wp2_with fail
    refine HT.out.mono ?_
    rintro e w1 ⟨rfl, hB⟩
    have HB := Lib.hid hB
    clear hB
    go_wp2
    all_goals
      go_loopg [0, 4] l.length (fun gk sv av wr => ∃ (k : Nat) (B : Option Addr) (c : Nat) (out : List Int), sv = .string ⟨(l.drop k).toArray⟩ ∧ av = .slice B out.length c ∧ Hid (k + gk = l.length) ∧ Hid (k = 0 ∨ gk % 9 = 0) ∧ Hid (out.length ≤ k) ∧ Hid (Ow wr w.heap.size B c out) ∧ Hid (Below w.heap.size w wr) ∧ Hid (val out = undec (l.take k)))
      case atStart => exact ⟨0, none, 0, [], rfl, rfl, Lib.hid (by omega), Lib.hid (.inl rfl), Lib.hid (Nat.le_refl _), Lib.hid (Ow.nil _ _), Lib.hid HB.out, Lib.hid rfl⟩
      case round =>
        obtain ⟨k, B, c, out, rfl, rfl, Hk, H9, HL, KO, KB, KV⟩ := hrel
        clear HB HT
        by_cases hg : 0 < gk
        · have hEd := empty_drop l k (by have := Hk.out; omega)
          have hdl : (l.drop k).length = gk := by have := Hk.out; rw [List.length_drop]; omega
          have hdd := all_drop HD.out k
          obtain ⟨t, ht⟩ : ∃ t, t = l.drop k := ⟨_, rfl⟩
          rw [← ht] at hEd hdl hdd
          rw [← ht]
          have HTt := Lib.hid ht
          have HDD := Lib.hid hdd
          have Hdl := Lib.hid hdl
          clear ht hdd h10
          subst hdl
          have htl : t.length ≤ 65536 := by have := Hk.out; omega
          by_cases hm : t.length % 9 = 0
          · have h9t : 9 ≤ t.length := by omega
            have E1 := str_take t (9)
            have E2 := str_drop t (9)
            have htn : t.take (9) ≠ [] := by intro e; have := congrArg List.length e; rw [List.length_take] at this; simp only [List.length_nil] at this; omega
            have HP := Lib.hid (PUint_any (t.take (9)) (all_take HDD.out _) htn (by rw [List.length_take]; omega))
            have HR := Lib.hid (undec_round l k (9) (by have := Hk.out; have := Hdl.out; omega) (.inr rfl))
            rw [← HTt.out] at HR
            have hu : undec (t.take (9)) < 1000000000 := Nat.lt_of_lt_of_le (undec_lt _ (all_take HDD.out _)) (nine_pow (by rw [List.length_take]; omega))
            have HN1 := Lib.hid (show k + (9) + (t.length - (9)) = l.length by have := Hk.out; omega)
            have HN2 := Lib.hid (show (t.length - (9)) % 9 = 0 by omega)
            have HN3 := Lib.hid (show t.length - (9) < t.length by omega)
            have HN4 := Lib.hid (show 0 < (9) by omega)
            clear htn
            generalize undec (t.take (9)) = u at *
            go_wp2_with fail
            refine (HP.out _).mono ?_
            rintro e w2 ⟨rfl, hB⟩
            have KO2 := Lib.hid (KO.out.below hB)
            have KB2 := Lib.hid (KB.out.trans (hB.mono KB.out.size))
            clear hB KO KB HP
            go_wp2_with fail
            refine (grow_any w.heap.size c B out u _ KO2.out KB2.out.size (by omega) (by have := HL.out; have := Hk.out; omega)).mono ?_
            rintro e w3 ⟨B3, d3, out3, rfl, hO3, hB3, hv3, hl3⟩
            have KO3 := Lib.hid hO3
            have KB3 := Lib.hid (KB2.out.trans hB3)
            have HV3 := Lib.hid hv3
            have HL3 := Lib.hid hl3
            clear hO3 hB3 hv3 hl3 KO2 KB2
            go_wp2_with fail
            go_roundg (t.length - (9))
            case measure => exact HN3.out
            case rel =>
              refine ⟨k + (9), B3, d3, out3, ?_, rfl, Lib.hid HN1.out, Lib.hid (.inr HN2.out), Lib.hid (by have := HL3.out; have := HL.out; have := HN4.out; omega), Lib.hid KO3.out, Lib.hid KB3.out, Lib.hid (by rw [HV3.out, KV.out, HR.out])⟩
              first | rw [HTt.out, List.drop_drop] | rw [str_drop, HTt.out, List.drop_drop]
          · have h9t : t.length % 9 < 9 := by omega
            have E1 := str_take t (t.length % 9)
            have E2 := str_drop t (t.length % 9)
            have htn : t.take (t.length % 9) ≠ [] := by intro e; have := congrArg List.length e; rw [List.length_take] at this; simp only [List.length_nil] at this; omega
            have HP := Lib.hid (PUint_any (t.take (t.length % 9)) (all_take HDD.out _) htn (by rw [List.length_take]; omega))
            have HR := Lib.hid (undec_round l k (t.length % 9) (by have := Hk.out; have := Hdl.out; omega) (.inl (by rcases H9.out with h | h; exact h; exact absurd h hm)))
            rw [← HTt.out] at HR
            have hu : undec (t.take (t.length % 9)) < 1000000000 := Nat.lt_of_lt_of_le (undec_lt _ (all_take HDD.out _)) (nine_pow (by rw [List.length_take]; omega))
            have HN1 := Lib.hid (show k + (t.length % 9) + (t.length - (t.length % 9)) = l.length by have := Hk.out; omega)
            have HN2 := Lib.hid (show (t.length - (t.length % 9)) % 9 = 0 by omega)
            have HN3 := Lib.hid (show t.length - (t.length % 9) < t.length by omega)
            have HN4 := Lib.hid (show 0 < (t.length % 9) by omega)
            clear htn
            generalize undec (t.take (t.length % 9)) = u at *
            go_wp2_with fail
            refine (HP.out _).mono ?_
            rintro e w2 ⟨rfl, hB⟩
            have KO2 := Lib.hid (KO.out.below hB)
            have KB2 := Lib.hid (KB.out.trans (hB.mono KB.out.size))
            clear hB KO KB HP
            go_wp2_with fail
            refine (grow_any w.heap.size c B out u _ KO2.out KB2.out.size (by omega) (by have := HL.out; have := Hk.out; omega)).mono ?_
            rintro e w3 ⟨B3, d3, out3, rfl, hO3, hB3, hv3, hl3⟩
            have KO3 := Lib.hid hO3
            have KB3 := Lib.hid (KB2.out.trans hB3)
            have HV3 := Lib.hid hv3
            have HL3 := Lib.hid hl3
            clear hO3 hB3 hv3 hl3 KO2 KB2
            go_wp2_with fail
            go_roundg (t.length - (t.length % 9))
            case measure => exact HN3.out
            case rel =>
              refine ⟨k + (t.length % 9), B3, d3, out3, ?_, rfl, Lib.hid HN1.out, Lib.hid (.inr HN2.out), Lib.hid (by have := HL3.out; have := HL.out; have := HN4.out; omega), Lib.hid KO3.out, Lib.hid KB3.out, Lib.hid (by rw [HV3.out, KV.out, HR.out])⟩
              first | rw [HTt.out, List.drop_drop] | rw [str_drop, HTt.out, List.drop_drop]
        · have e0 : gk = 0 := by omega
          have hz : l.drop k = [] := List.drop_of_length_le (by have := Hk.out; omega)
          have hk2 : l.take k = l := List.take_of_length_le (by have := Hk.out; omega)
          have hv := KV.out
          rw [hk2] at hv
          have T := told_ok B c out wr KO.out.rd KO.out.le (by rw [cut_words KO.out.rd.inr, hv]; exact HW.out)
          have hO := KO.out.take (cut out).length
          rw [← cut_take, cut_words KO.out.rd.inr, hv] at hO
          rw [cut_words KO.out.rd.inr, hv] at T
          have T' := Lib.hid T
          have O' := Lib.hid hO
          clear T hO hv hk2 h10
          rw [hz]
          clear hz
          go_wp2_with fail
          refine T'.out.mono ?_
          rintro e w3 ⟨rfl, rfl⟩
          go_wp2
          go_ret2
          exact ⟨_, _, rfl, O'.out, KB.out⟩
end Go.Proofs.YtbjclfmplndkcaaGreatDoor
