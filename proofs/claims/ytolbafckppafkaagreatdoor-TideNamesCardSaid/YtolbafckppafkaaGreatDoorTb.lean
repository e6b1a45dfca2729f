/-
  PACKAGE rotor: common, Check.
-/
import Derived.Test.YtolbafckppafkaaGreatDoorYB
import Derived.BigQuiet
import Derived.Deep.QuietTactic
set_option linter.unusedVariables false
set_option linter.unusedSimpArgs false
set_option linter.unnecessarySimpa false
namespace Go.Proofs.YtolbafckppafkaaGreatDoor
open Go.RowKit Pl

/-- which rotors may be -/
def okRotor (far near : Int) : Bool := decide (1 ≤ far ∧ far ≤ 1000 ∧ -1000 ≤ near ∧ near ≤ 1000 ∧ near ≠ 0 ∧ far ≠ near ∧ far ≠ -near ∧ Int.gcd far near = 1)

theorem drawnT (w : World) (n m : Nat) : ∃ k, (w.drewN n).drewN m = w.drewN k := ⟨n + m, World.drewN_drewN ..⟩
theorem ret_i64 {a b : Int} (h : a = b) : Ending.returned (.int .i64 a) = .returned (.int .i64 b) := by rw [h]
theorem gcd_tmod (a b : Int) (hb : b ≠ 0) : Int.gcd b (a.tmod b) = Int.gcd a b := by
  show Nat.gcd b.natAbs (a.tmod b).natAbs = Nat.gcd a.natAbs b.natAbs
  rw [Int.natAbs_tmod, Nat.gcd_comm, ← Nat.gcd_rec, Nat.gcd_comm]
theorem tmod_lt (a b : Int) (hb : b ≠ 0) : (a.tmod b).natAbs < b.natAbs := by
  rw [Int.natAbs_tmod]
  exact Nat.mod_lt _ (Int.natAbs_pos.2 hb)

set_option maxHeartbeats 1000000 in
theorem common_any (a b : Int) (w : World) (ha : a.natAbs ≤ 1000) (hb : b.natAbs ≤ 1000) :
    Calls Tryz.prog 69 #[.int .i64 a, .int .i64 b] w fun e w' => e = .returned (.int .i64 (Int.gcd a b : Int)) ∧ ∃ n, w' = w.drewN n := by
  go_enter Tryz.func69, Tryz.ntmps69
  go_wp2
  go_loopw [0, 1] (fun i j wr => ∃ x y : Int, ∃ n : Nat, i = .int .i64 x ∧ j = .int .i64 y ∧ x.natAbs ≤ 1000 ∧ y.natAbs ≤ 1000 ∧ Hid (Int.gcd x y = Int.gcd a b) ∧ wr = w.drewN n) (fun _ j _ => (intOf j).natAbs)
  case atStart => exact ⟨a, b, 0, rfl, rfl, ha, hb, Lib.hid rfl, rfl⟩
  case round =>
    obtain ⟨x, y, n, rfl, rfl, hx, hy, HG, rfl⟩ := hrel
    by_cases h0 : y = 0
    · subst h0
      have HG' := Lib.hid (show (x.natAbs : Int) = (Int.gcd a b : Int) by rw [← HG.out, Int.gcd_zero_right])
      by_cases hs : 0 ≤ x
      · have e : (x.natAbs : Int) = x := by omega
        rw [e] at HG'
        go_wp2
        go_ret
        exact ⟨ret_i64 HG'.out, n, rfl⟩
      · have e : (x.natAbs : Int) = -x := by omega
        rw [e] at HG'
        go_wp2
        go_ret
        exact ⟨ret_i64 HG'.out, n, rfl⟩
    · have hm := tmod_lt x y h0
      have HG' := Lib.hid (show Int.gcd y (x.tmod y) = Int.gcd a b by rw [gcd_tmod x y h0, HG.out])
      have hl : -1000 ≤ x.tmod y := by omega
      have hu : x.tmod y ≤ 1000 := by omega
      go_wp2
      go_quiet (fail)
      go_wp2
      go_roundw
      case rel =>
        obtain ⟨k, hk⟩ := drawnT w n nq
        exact ⟨y, x.tmod y, k, rfl, rfl, hy, by omega, HG', hk⟩
      case measure => first | exact hm | (show (x.tmod y).natAbs < y.natAbs; exact hm)

theorem okRotor_no {f n : Int} (h : f < 1 ∨ 1000 < f ∨ n < -1000 ∨ 1000 < n ∨ n = 0 ∨ f = n ∨ f = -n ∨ (Int.gcd f n : Int) ≠ 1) : okRotor f n = false := by
  unfold okRotor
  rw [decide_eq_false]
  intro h'
  omega
theorem okRotor_yes {f n : Int} (h1 : ¬ f < 1) (h2 : ¬ 1000 < f) (h3 : ¬ n < -1000) (h4 : ¬ 1000 < n) (h5 : n ≠ 0) (h6 : f ≠ n) (h7 : f ≠ -n) (h8 : (Int.gcd f n : Int) = 1) : okRotor f n = true := by
  unfold okRotor
  rw [decide_eq_true]
  omega

set_option maxHeartbeats 2000000 in
theorem rotCheck_any (f n : Int) (w : World) (hf : -2147483648 ≤ f ∧ f ≤ 2147483647) (hn : -2147483648 ≤ n ∧ n ≤ 2147483647) :
    Calls Tryz.prog 38 #[.agg #[.int .i32 f, .int .i32 n]] w fun e w' => e = .returned (.int .i64 (if okRotor f n then 0 else 150)) ∧ Below w.heap.size w w' := by
  obtain ⟨f1, f2⟩ := hf
  obtain ⟨n1, n2⟩ := hn
  obtain ⟨w0, e0, hB0, q0, q1⟩ : ∃ w0, w0 = w.alloc (.cells #[.int .i32 f, .int .i32 n] 24) ∧ Below w.heap.size w w0 ∧ w0.cell? ⟨w.heap.size, 0, none⟩ = some (.int .i32 f) ∧ w0.cell? ⟨w.heap.size, 1, none⟩ = some (.int .i32 n) :=
    ⟨_, rfl, (Below.refl _ _).alloc (Nat.le_refl _) _, (Blk.new w _ _).cell 0, (Blk.new w _ _).cell 1⟩
  have HB := Lib.hid hB0
  clear hB0
  by_cases c1 : f < 1
  · have R := okRotor_no (f := f) (n := n) (.inl c1)
    rw [R]
    clear R
    go_enter Tryz.func38, Tryz.ntmps38
    go_wp2_with fail
    rw [← e0]
    clear e0
    go_wp2
    go_quiet (fail)
    go_wp2
    all_goals go_ret
    all_goals exact ⟨rfl, below_drewN HB.out _⟩
  by_cases c2 : 1000 < f
  · have R := okRotor_no (f := f) (n := n) (.inr (.inl c2))
    rw [R]
    clear R
    go_enter Tryz.func38, Tryz.ntmps38
    go_wp2_with fail
    rw [← e0]
    clear e0
    go_wp2
    go_quiet (fail)
    go_wp2
    all_goals go_ret
    all_goals exact ⟨rfl, below_drewN HB.out _⟩
  by_cases c3 : n < -1000
  · have R := okRotor_no (f := f) (n := n) (.inr (.inr (.inl c3)))
    rw [R]
    clear R
    go_enter Tryz.func38, Tryz.ntmps38
    go_wp2_with fail
    rw [← e0]
    clear e0
    go_wp2
    go_quiet (fail)
    go_wp2
    all_goals go_ret
    all_goals exact ⟨rfl, below_drewN HB.out _⟩
  by_cases c4 : 1000 < n
  · have R := okRotor_no (f := f) (n := n) (.inr (.inr (.inr (.inl c4))))
    rw [R]
    clear R
    go_enter Tryz.func38, Tryz.ntmps38
    go_wp2_with fail
    rw [← e0]
    clear e0
    go_wp2
    go_quiet (fail)
    go_wp2
    all_goals go_ret
    all_goals exact ⟨rfl, below_drewN HB.out _⟩
  by_cases c5 : n = 0
  · have R := okRotor_no (f := f) (n := n) (.inr (.inr (.inr (.inr (.inl c5)))))
    rw [R]
    clear R
    subst c5
    go_enter Tryz.func38, Tryz.ntmps38
    go_wp2_with fail
    rw [← e0]
    clear e0
    go_wp2
    go_quiet (fail)
    go_wp2
    all_goals go_ret
    all_goals exact ⟨rfl, below_drewN HB.out _⟩
  by_cases c6 : f = n
  · have R := okRotor_no (f := f) (n := n) (.inr (.inr (.inr (.inr (.inr (.inl c6))))))
    rw [R]
    clear R
    subst c6
    go_enter Tryz.func38, Tryz.ntmps38
    go_wp2_with fail
    rw [← e0]
    clear e0
    go_wp2
    go_quiet (fail)
    go_wp2
    all_goals go_ret
    all_goals exact ⟨rfl, below_drewN HB.out _⟩
  by_cases c7 : f = -n
  · have R := okRotor_no (f := f) (n := n) (.inr (.inr (.inr (.inr (.inr (.inr (.inl c7)))))))
    rw [R]
    clear R
    subst c7
    go_enter Tryz.func38, Tryz.ntmps38
    go_wp2_with fail
    rw [← e0]
    clear e0
    go_wp2
    go_quiet (fail)
    go_wp2
    all_goals go_ret
    all_goals exact ⟨rfl, below_drewN HB.out _⟩
  have C := Lib.hid (fun (W : World) => common_any f n W (by omega) (by omega))
  have d1 : decide (f < 1) = false := decide_eq_false c1
  have d2 : decide (1000 < f) = false := decide_eq_false c2
  have d3 : decide (n < -1000) = false := decide_eq_false c3
  have d4 : decide (1000 < n) = false := decide_eq_false c4
  have d5 : (n == 0) = false := beq_eq_false_iff_ne.2 c5
  have d6 : (f == n) = false := beq_eq_false_iff_ne.2 c6
  have d7 : (f == -n) = false := beq_eq_false_iff_ne.2 c7
  by_cases c8 : (Int.gcd f n : Int) = 1
  · have R := okRotor_yes c1 c2 c3 c4 c5 c6 c7 c8
    rw [R]
    clear R
    go_enter Tryz.func38, Tryz.ntmps38
    go_wp2_with fail
    rw [← e0]
    clear e0
    go_wp2_with fail
    go_quiet (fail)
    go_wp2_with fail
    all_goals
      refine (C.out _).mono ?_
      rintro e w1 ⟨rfl, k, rfl⟩
      rw [c8]
      go_wp2
      all_goals go_ret
      all_goals exact ⟨rfl, below_drewN HB.out _⟩
  · have R := okRotor_no (f := f) (n := n) (.inr (.inr (.inr (.inr (.inr (.inr (.inr c8)))))))
    have d8 : ((Int.gcd f n : Int) != 1) = true := bne_iff_ne.2 c8
    rw [R]
    clear R
    go_enter Tryz.func38, Tryz.ntmps38
    go_wp2_with fail
    rw [← e0]
    clear e0
    go_wp2_with fail
    go_quiet (fail)
    go_wp2_with fail
    all_goals
      refine (C.out _).mono ?_
      rintro e w1 ⟨rfl, k, rfl⟩
      go_wp2
      all_goals go_ret
      all_goals exact ⟨rfl, below_drewN HB.out _⟩
end Go.Proofs.YtolbafckppafkaaGreatDoor
