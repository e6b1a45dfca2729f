/-
  strings.Cut at a separator of one byte.
-/
import Derived.Test.YtbjclfmplndkcaaGreatDoorNr
set_option linter.unusedVariables false
set_option linter.unusedSimpArgs false
set_option linter.unnecessarySimpa false
namespace Go.Proofs.YtbjclfmplndkcaaGreatDoor
open Go.RowKit Pl Go.Sort Go.Lib

def cutB (l : List UInt8) (c : UInt8) : List UInt8 × List UInt8 × Bool :=
  if 0 ≤ Lib.indexByte l c then (l.take (Lib.indexByte l c).toNat, l.drop ((Lib.indexByte l c).toNat + 1), true) else (l, [], false)
theorem indexByte_lt (l : List UInt8) (c : UInt8) : Lib.indexByte l c < l.length := by
  induction l with
  | nil => unfold Lib.indexByte; simp
  | cons b l ih =>
    unfold Lib.indexByte
    split
    · simp
    · split
      · simp; omega
      · simp; omega
theorem ret_3s {a b a' b' : List UInt8} {c c' : Bool} (h1 : a = a') (h2 : b = b') (h3 : c = c') :
    Ending.returned (.tuple #[.string ⟨a.toArray⟩, .string ⟨b.toArray⟩, .bool c]) = .returned (.tuple #[.string ⟨a'.toArray⟩, .string ⟨b'.toArray⟩, .bool c']) := by rw [h1, h2, h3]

set_option maxHeartbeats 1000000 in
theorem iCut_any (l : List UInt8) (c : UInt8) (w : World) (hl : l.length ≤ 1000000) :
    Calls Tryz.prog 47 #[.string ⟨l.toArray⟩, .string ⟨#[c]⟩] w fun e w' =>
      e = .returned (.tuple #[.string ⟨(cutB l c).1.toArray⟩, .string ⟨(cutB l c).2.1.toArray⟩, .bool (cutB l c).2.2]) ∧ Below w.heap.size w w' := by
  have I := Tryz.stringslite_Index_one ⟨l.toArray⟩ c w
  rw [show (⟨l.toArray⟩ : ByteArray).data.toList = l from rfl] at I
  have h1 := Lib.indexByte_ge l c
  have h2 := indexByte_lt l c
  unfold cutB
  generalize Lib.indexByte l c = i at *
  have HI := Lib.hid I
  clear I
  by_cases h : 0 ≤ i
  · obtain ⟨k, rfl⟩ : ∃ k : Nat, i = (k : Int) := ⟨i.toNat, by omega⟩
    rw [if_pos h]
    have hk : k < l.length := by omega
    have E1 := str_take l k
    have E2 := str_drop l (k + 1)
    have hk1 : (k : Int) < (l.length : Int) := by omega
    have e1 : IntKind.i64.wrap ((k : Int) + 1) = (k : Int) + 1 := by simp [IntKind.wrap, IntKind.signed, IntKind.bits]; omega
    go_enter Tryz.func47, Tryz.ntmps47
    go_wp2_with fail
    refine HI.out.mono ?_
    rintro e w1 ⟨rfl, rfl⟩
    go_wp2_with fail
    go_quiet (fail)
    go_wp2
    go_ret3
    exact ⟨rfl, below_drewN (Below.refl _ _) _⟩
  · rw [if_neg h]
    have hd : decide (0 ≤ i) = false := decide_eq_false h
    go_enter Tryz.func47, Tryz.ntmps47
    go_wp2_with fail
    refine HI.out.mono ?_
    rintro e w1 ⟨rfl, rfl⟩
    go_wp2
    go_ret3
    exact ⟨rfl, Below.refl _ _⟩

theorem Cut_any (l : List UInt8) (c : UInt8) (w : World) (hl : l.length ≤ 1000000) :
    Calls Tryz.prog 34 #[.string ⟨l.toArray⟩, .string ⟨#[c]⟩] w fun e w' =>
      e = .returned (.tuple #[.string ⟨(cutB l c).1.toArray⟩, .string ⟨(cutB l c).2.1.toArray⟩, .bool (cutB l c).2.2]) ∧ Below w.heap.size w w' := by
  have C := Lib.hid (iCut_any l c w hl)
  generalize cutB l c = r at *
  go_enter Tryz.func34, Tryz.ntmps34
  go_wp2_with fail
  refine C.out.mono ?_
  rintro e w1 ⟨rfl, hB⟩
  have HB := Lib.hid hB
  clear hB
  go_wp2
  go_ret3
  exact ⟨rfl, HB.out⟩
theorem CutPrefix_any (l : List UInt8) (c : UInt8) (w : World) :
    Calls Tryz.prog 35 #[.string ⟨l.toArray⟩, .string ⟨#[c]⟩] w fun e w' =>
      e = .returned (.tuple #[.string ⟨(if l.head? = some c then l.tail else l).toArray⟩, .bool (decide (l.head? = some c))]) ∧ w = w' := by
  refine (Tryz.strings_CutPrefix ⟨l.toArray⟩ ⟨#[c]⟩ w).mono ?_
  rintro e w' ⟨rfl, rfl⟩
  refine ⟨?_, rfl⟩
  have e1 : Lib.hasPrefix l [c] = decide (l.head? = some c) := by
    unfold Lib.hasPrefix
    cases l with
    | nil => rfl
    | cons a l =>
      rw [Bool.eq_iff_iff]
      simp only [List.isPrefixOf, Bool.and_true, beq_iff_eq, List.head?_cons, Option.some.injEq, decide_eq_true_eq]
      exact eq_comm
  show Ending.returned (.tuple #[.string ⟨(Lib.trimPrefix l [c]).toArray⟩, .bool (Lib.hasPrefix l [c])]) = _
  unfold Lib.trimPrefix
  rw [e1]
  by_cases h : l.head? = some c
  · simp [h]
  · simp [h]
end Go.Proofs.YtbjclfmplndkcaaGreatDoor
