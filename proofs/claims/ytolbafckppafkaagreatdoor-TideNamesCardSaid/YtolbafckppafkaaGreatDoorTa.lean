/-
  PACKAGE tide: letter, Name.
-/
import Derived.Test.YtolbafckppafkaaGreatDoorYB
set_option linter.unusedVariables false
set_option linter.unusedSimpArgs false
set_option linter.unnecessarySimpa false
namespace Go.Proofs.YtolbafckppafkaaGreatDoor
open Go.RowKit Pl

def isL (c : Int) : Bool := decide (97 ≤ c ∧ c ≤ 122) || decide (65 ≤ c ∧ c ≤ 90)
def isLD (c : Int) : Bool := isL c || decide (48 ≤ c ∧ c ≤ 57)
/-- which texts are names -/
def okName (l : List UInt8) : Bool := decide (0 < l.length ∧ l.length ≤ 20) && isL ((l.headD 0).toNat : Int) && l.all fun c => isLD (c.toNat : Int)

theorem ret_boolN {a b : Bool} (h : a = b) : Ending.returned (.bool a) = .returned (.bool b) := by rw [h]
theorem letter_any (c : Int) (w : World) : Calls Tryz.prog 37 #[.int .u8 c] w fun e w' => e = .returned (.bool (isL c)) ∧ w = w' := by
  unfold isL
  by_cases h1 : 97 ≤ c <;> by_cases h2 : c ≤ 122 <;> by_cases h3 : 65 ≤ c <;> by_cases h4 : c ≤ 90
  all_goals
    first
    | (exfalso; omega)
    | (go_enter Tryz.func37, Tryz.ntmps37
       go_wp2
       go_ret
       exact ⟨by (first | (congr 2; done) | (congr 2; simp [*]; done)), rfl⟩)

theorem okName_bad (l : List UInt8) (k : Nat) (hk : k < l.length) (h : isLD ((l[k]'hk).toNat : Int) = false) : okName l = false := by
  unfold okName
  have : (l.all fun c => isLD (c.toNat : Int)) = false := by
    rw [Bool.eq_false_iff]
    intro ha
    have := List.all_eq_true.1 ha (l[k]'hk) (List.getElem_mem hk)
    rw [this] at h; cases h
  rw [this, Bool.and_false]
theorem okName_good (l : List UInt8) (h1 : 0 < l.length ∧ l.length ≤ 20) (h2 : isL ((l.headD 0).toNat : Int) = true) (h3 : ∀ k, ∀ hk : k < l.length, isLD ((l[k]'hk).toNat : Int) = true) : okName l = true := by
  unfold okName
  rw [decide_eq_true h1, h2]
  simp only [Bool.true_and]
  rw [List.all_eq_true]
  intro c hc
  obtain ⟨k, hk, rfl⟩ := List.getElem_of_mem hc
  exact h3 k hk

set_option maxHeartbeats 1000000 in
theorem Name_any (l : List UInt8) (w : World) (hs : l.length ≤ 9223372036854775807) : Calls Tryz.prog 10 #[.string ⟨l.toArray⟩] w fun e w' => e = .returned (.bool (okName l)) ∧ w = w' := by
  by_cases h0 : l = []
  · subst h0
    go_enter Tryz.func10, Tryz.ntmps10
    go_wp2
    go_ret
    exact ⟨rfl, rfl⟩
  have hE : l.isEmpty = false := by cases l with | nil => exact absurd rfl h0 | cons a l => rfl
  have h7 : 0 < l.length := by cases l with | nil => exact absurd rfl h0 | cons a l => simp
  by_cases h1 : 20 < l.length
  · have R : okName l = false := by unfold okName; rw [decide_eq_false (by omega)]; rfl
    rw [R]
    have h1' : (20 : Int) < (l.length : Int) := by omega
    go_enter Tryz.func10, Tryz.ntmps10
    go_wp2
    go_ret
    exact ⟨rfl, rfl⟩
  have h1' : ¬ (20 : Int) < (l.length : Int) := by omega
  have hh : (l.headD 0) = l[0]'h7 := by cases l with | nil => exact absurd rfl h0 | cons a l => rfl
  have L := Lib.hid (fun (c : Int) => letter_any c w)
  by_cases h2 : isL ((l[0]'h7).toNat : Int) = true
  case neg =>
    have R : okName l = false := by unfold okName; rw [hh, Bool.eq_false_iff.2 h2]; simp
    rw [R]
    have HX : Hid (isL ((((⟨l.toArray⟩ : ByteArray)[0]'(by show 0 < l.toArray.size; simpa using h7)).toNat : Nat) : Int) = false) := Lib.hid (Bool.eq_false_iff.2 h2)
    clear h2 R hh
    go_enter Tryz.func10, Tryz.ntmps10
    go_wp2_with fail
    refine (L.out _).mono ?_
    rintro e w1 ⟨rfl, rfl⟩
    rw [HX.out]
    go_wp2
    go_ret
    exact ⟨rfl, rfl⟩
  have HX : Hid (isL ((((⟨l.toArray⟩ : ByteArray)[0]'(by show 0 < l.toArray.size; simpa using h7)).toNat : Nat) : Int) = true) := Lib.hid h2
  have HX2 := Lib.hid (show isL ((l.headD 0).toNat : Int) = true by rw [hh]; exact h2)
  clear h2 hh
  go_enter Tryz.func10, Tryz.ntmps10
  go_wp2_with fail
  refine (L.out _).mono ?_
  rintro e w1 ⟨rfl, rfl⟩
  rw [HX.out]
  go_wp2
  go_loopw [19, 3] (fun i j wr => ∃ k : Nat, k ≤ l.length ∧ i = .int .i64 k ∧ w = wr ∧ Hid (∀ j, ∀ hj : j < l.length, j < k → isLD ((l[j]'hj).toNat : Int) = true)) (fun i _ _ => l.length - (intOf i).toNat)
  case atStart => exact ⟨0, Nat.zero_le _, rfl, rfl, Lib.hid (fun j _ hj => absurd hj (Nat.not_lt_zero _))⟩
  case round =>
    obtain ⟨k, hk, rfl, rfl, HI⟩ := hrel
    by_cases h8 : k < l.length
    · have hkl : (k : Int) < (l.length : Int) := by omega
      have hb : k < (⟨l.toArray⟩ : ByteArray).size := by show k < l.toArray.size; simpa using h8
      have HV : Hid ((⟨l.toArray⟩ : ByteArray)[k]'hb = l[k]'h8) := Lib.hid rfl
      have R0 := Lib.hid (okName_bad l k h8)
      have R1 := Lib.hid (fun (hx : isLD ((l[k]'h8).toNat : Int) = true) j (hj : j < l.length) (hjk : j < k + 1) => show isLD ((l[j]'hj).toNat : Int) = true by
        rcases Nat.lt_succ_iff_lt_or_eq.1 hjk with h | h
        · exact HI.out j hj h
        · subst h; exact hx)
      rw [← HV.out] at R0 R1
      go_wp2_with fail
      refine (L.out _).mono ?_
      rintro e w1 ⟨rfl, rfl⟩
      by_cases c1 : isL ((((⟨l.toArray⟩ : ByteArray)[k]'hb).toNat : Nat) : Int) = true
      · have G := Lib.hid (R1.out (by unfold isLD; rw [c1]; rfl))
        rw [c1]
        clear c1 R0 R1
        go_wp2
        go_roundw
        case rel => exact ⟨k + 1, by omega, by go_num, by first | rfl | trivial, G⟩
        case measure => first | (simp [intOf]; done) | (simp [intOf]; omega)
      · have c1' := Bool.eq_false_iff.2 c1
        by_cases c2 : ((((⟨l.toArray⟩ : ByteArray)[k]'hb).toNat : Nat) : Int) < 48
        · have G := Lib.hid (R0.out (by unfold isLD; rw [c1', decide_eq_false (by omega)]; rfl))
          rw [c1']
          clear c1 R0 R1
          go_wp2
          go_ret
          exact ⟨ret_boolN (by rw [G.out]), by first | rfl | trivial⟩
        · by_cases c3 : 57 < ((((⟨l.toArray⟩ : ByteArray)[k]'hb).toNat : Nat) : Int)
          · have G := Lib.hid (R0.out (by unfold isLD; rw [c1', decide_eq_false (by omega)]; rfl))
            rw [c1']
            clear c1 R0 R1
            go_wp2
            go_ret
            exact ⟨ret_boolN (by rw [G.out]), by first | rfl | trivial⟩
          · have G := Lib.hid (R1.out (by unfold isLD; rw [c1', decide_eq_true (by omega)]; rfl))
            rw [c1']
            clear c1 R0 R1
            go_wp2
            go_roundw
            case rel => exact ⟨k + 1, by omega, by go_num, by first | rfl | trivial, G⟩
            case measure => first | (simp [intOf]; done) | (simp [intOf]; omega)
    · have R := Lib.hid (okName_good l ⟨h7, by omega⟩ HX2.out (fun j hj => HI.out j hj (by omega)))
      go_wp2
      go_ret
      exact ⟨ret_boolN (by rw [R.out]), by first | rfl | trivial⟩
end Go.Proofs.YtolbafckppafkaaGreatDoor
