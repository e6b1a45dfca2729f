/-
  PACKAGE nat, SEVENTH PART: guess.
-/
import Derived.Test.YtbjclfmplndkcaaGreatDoorNf
set_option linter.unusedVariables false
set_option linter.unusedSimpArgs false
set_option linter.unnecessarySimpa false
namespace Go.Proofs.YtbjclfmplndkcaaGreatDoor
open Go.RowKit Pl

theorem or64n (a b : Nat) (ha : a < 4294967296) (hb : b < 4294967296) :
    bits BinOp.or IntKind.u64 ((a : Int) * 4294967296) (b : Int) = ((a * 4294967296 + b : Nat) : Int) := by
  have := or64 a b ha (by omega) (by omega)
  rwa [Int.toNat_natCast] at this

theorem ret_u64 {a b : Int} (h : a = b) : Ending.returned (.int .u64 a) = .returned (.int .u64 b) := by rw [h]
set_option maxHeartbeats 1000000 in
theorem guess_any (A A' : Option Addr) (c c' m : Nat) (p v : List Int) (w : World) (h : Rd w A p) (h' : Rd w A' v) (hp : p.length = m + 1) (hv : v.length = m) (hm : 2 ≤ m) (hlt : val p < val v * 4294967296) (htop : 2147483648 ≤ v.getD (m - 1) 0) (hk8 : m ≤ 8192) :
    Calls Tryz.prog 56 #[.slice A (m + 1) c, .slice A' m c'] w fun e w' =>
      ∃ x : Nat, e = .returned (.int .u64 x) ∧ x < 4294967296 ∧ val p / val v ≤ x ∧ x ≤ val p / val v + 1 ∧ ∃ n, w' = w.drewN n := by
  obtain ⟨k, hk⟩ : ∃ k, k = m - 2 := ⟨_, rfl⟩
  have E1 : m - 1 = k + 1 := by omega
  have E2 : m - 2 = k := by omega
  have E3 : m = k + 2 := by omega
  have GD := fun q r => guess_down p v k q r (by omega) (by omega) h.inr hlt
  have GS := fun q r => guess_stop p v k q r (by omega) (by omega) h'.inr hlt (by rw [← E1]; omega)
  have GT := top_le (B := 4294967296) (P := 4294967296 ^ k) (v1 := (v.getD (k + 1) 0).toNat) (v0 := (v.getD k 0).toNat) (vr := val (v.take k))
    (u2 := (p.getD (k + 2) 0).toNat) (u1 := (p.getD (k + 1) 0).toNat) (u0 := (p.getD k 0).toNat) (ur := val (p.take k))
    (by have := val_lt (h'.inr.take k); rwa [List.length_take, Nat.min_eq_left (by omega)] at this)
    (by rw [← top3 p k (by omega), ← top2 v k (by omega)]; exact hlt)
  rw [← E3, ← E1, ← E2] at GT
  have E4 : k + 2 = m := by omega
  have E5 : k + 1 = m - 1 := by omega
  simp only [E4, E5] at GD GS
  simp only [← E2] at GD GS
  have GL : val p / val v * (v.getD (m - 1) 0).toNat ≤ (p.getD m 0).toNat * 4294967296 + (p.getD (m - 1) 0).toNat := by
    have e1 := top2 v k (by omega)
    have e2 := top3 p k (by omega)
    have e3 : val p / val v * val v ≤ val p := Nat.div_mul_le_self _ _
    have h1 := val_lt (h.inr.take k)
    rw [List.length_take, Nat.min_eq_left (by omega)] at h1
    rw [E4, E5] at e2
    rw [E5] at e1
    have hb0 := h.inr.getD k
    generalize val p / val v = Q at *
    rw [e1, e2] at e3
    exact guess_upper (Nat.pow_pos (by omega)) (by omega) h1 (by omega) e3
  obtain ⟨a, rfl, hca⟩ := h.some_ (by omega)
  obtain ⟨b, rfl, hcb⟩ := h'.some_ (by omega)
  have p2 := hca m (by omega)
  have p1 := hca (m - 1) (by omega)
  have p0 := hca (m - 2) (by omega)
  have q1 := hcb (m - 1) (by omega)
  have q0 := hcb (m - 2) (by omega)
  have b2 := h.inr.getD m
  have b1 := h.inr.getD (m - 1)
  have b0 := h.inr.getD (m - 2)
  have d1 := h'.inr.getD (m - 1)
  have d0 := h'.inr.getD (m - 2)
  clear E1 E2 E3 E4 E5 hk
  obtain ⟨u2, hu2⟩ := Int.eq_ofNat_of_zero_le b2.1
  obtain ⟨u1, hu1⟩ := Int.eq_ofNat_of_zero_le b1.1
  obtain ⟨u0, hu0⟩ := Int.eq_ofNat_of_zero_le b0.1
  obtain ⟨v1, hv1⟩ := Int.eq_ofNat_of_zero_le d1.1
  obtain ⟨v0, hv0⟩ := Int.eq_ofNat_of_zero_le d0.1
  simp only [hu2, hu1, hu0, hv1, hv0, Int.toNat_natCast] at *
  generalize val p / val v = qt at *
  have c2 : u2 < 4294967296 := by omega
  have c1 : u1 < 4294967296 := by omega
  have c0 : u0 < 4294967296 := by omega
  have e1 : v1 < 4294967296 := by omega
  have e0 : v0 < 4294967296 := by omega
  have e2 : 2147483648 ≤ v1 := by omega
  have o1 := or64n u2 u1 c2 c1
  have o0 := fun r hr => or64n r u0 hr c0
  have HGD := Lib.hid GD
  have HGS := Lib.hid GS
  have HGT := Lib.hid GT
  have HGL := Lib.hid GL
  have HO := Lib.hid o0
  clear GD GS GT GL o0 hu2 hu1 hu0 hv1 hv0 b2 b1 b0 d1 d0 hca hcb h h' hp hv hlt htop
  obtain ⟨T, hT⟩ : ∃ T, T = u2 * 4294967296 + u1 := ⟨_, rfl⟩
  rw [← hT] at o1
  have i1 : ((m : Int) - 1).toNat = m - 1 := by omega
  have i2 : ((m : Int) - 2).toNat = m - 2 := by omega
  have hTb : T < 18446744073709551616 := by omega
  obtain ⟨Q0, hQ⟩ : ∃ Q0, Q0 = T / v1 := ⟨_, rfl⟩
  obtain ⟨R0, hR⟩ : ∃ R0, R0 = T % v1 := ⟨_, rfl⟩
  have QR : Q0 * v1 + R0 = T := by rw [hQ, hR, Nat.mul_comm]; exact Nat.div_add_mod T v1
  have R1 : R0 < v1 := by rw [hR]; exact Nat.mod_lt _ (by omega)
  have QB : ∀ q r, q * v1 + r = T → q < 8589934592 := fun q r e => by
    refine Nat.lt_of_not_le fun hh => ?_
    have := Nat.mul_le_mul hh e2
    omega
  have Q2 := QB Q0 R0 QR
  have hq0 : (T : Int) / (v1 : Int) = (Q0 : Int) := by rw [hQ]; rfl
  have hr0 : (T : Int) % (v1 : Int) = (R0 : Int) := by rw [hR]; rfl
  have QS : qt ≤ Q0 := by
    refine Nat.le_of_not_lt fun hh => ?_
    have a1 : (Q0 + 1) * v1 ≤ qt * v1 := Nat.mul_le_mul_right _ hh
    have a2 := HGL.out
    rw [Nat.add_mul, Nat.one_mul] at a1
    omega
  have HQR := Lib.hid QR
  have HQB := Lib.hid QB
  have HQS := Lib.hid QS
  have hTT := Lib.hid hT
  clear hT hQ hR QR QB QS hTb
  go_enter Tryz.func56, Tryz.ntmps56
  have j1 : (0 : Int) ≤ (m : Int) := by omega
  have j2 : (m : Int) < (m : Int) + 1 := by omega
  have j3 : (0 : Int) ≤ (m : Int) - 1 := by omega
  have j4 : (m : Int) - 1 < (m : Int) + 1 := by omega
  have j5 : (m : Int) - 1 < (m : Int) := by omega
  have j6 : (0 : Int) ≤ (m : Int) - 2 := by omega
  have j7 : (m : Int) - 2 < (m : Int) + 1 := by omega
  have j8 : (m : Int) - 2 < (m : Int) := by omega
  have w1 : IntKind.i64.wrap ((m : Int) - 1) = (m : Int) - 1 := IntWalk.i64_in _ (by omega)
  have w2 : IntKind.i64.wrap ((m : Int) - 2) = (m : Int) - 2 := IntWalk.i64_in _ (by omega)
  have z1 : (v1 : Int) ≠ 0 := by omega
  have w3 : IntKind.u64.wrap (Q0 : Int) = (Q0 : Int) := by rw [wrap_u64']; omega
  go_wp2
  go_quiet (fail)
  go_wp2
  go_quiet (fail)
  go_wp2
  go_loopw [7, 8] (fun qv rv wr => ∃ q r n : Nat, qv = .int .u64 q ∧ rv = .int .u64 r ∧ r < 4294967296 ∧ q < 8589934592 ∧ wr = w.drewN n ∧ Hid (q * v1 + r = T ∧ qt ≤ q)) (fun qv _ _ => (intOf qv).toNat)
  case atStart => exact ⟨Q0, R0, _, rfl, congrArg (Value.int .u64) hr0, by omega, Q2, World.drewN_drewN .., ⟨HQR.out, HQS.out⟩⟩
  case round =>
    obtain ⟨q, r, n, rfl, rfl, hr, hq, rfl, HV⟩ := hrel
    by_cases g : 4294967296 ≤ q
    · have g1 : ((q : Int) / 4294967296 != 0) = true := by rw [bne_iff_ne]; omega
      have j9 : (0 : Int) ≤ (q : Int) - 1 := by omega
      have HD := HGD.out q r (by rw [← hTT.out]; exact HV.out.1) (.inl g)
      have HS := HGS.out (q - 1) (r + v1) (by
        rw [← hTT.out, ← HV.out.1]
        obtain ⟨q, rfl⟩ : ∃ j, q = j + 1 := ⟨q - 1, by omega⟩
        rw [Nat.add_sub_cancel, Nat.add_mul, Nat.one_mul]; omega)
      have HDH := Lib.hid HD
      have HSH := Lib.hid HS
      have hrr := Lib.hid hr
      have hqq := Lib.hid hq
      have jq : (q : Int) ≤ 8589934592 := by omega
      have jr : (r : Int) ≤ 4294967295 := by omega
      clear HD HS
      by_cases b1 : 4294967296 ≤ r + v1
      · have b2 : (((r : Int) + (v1 : Int)) / 4294967296 != 0) = true := by rw [bne_iff_ne]; omega
        have b3 := Lib.hid b1
        clear b1 g hr hq
        go_wp2
        go_quiet (fail)
        go_wp2
        go_ret
        obtain ⟨x1, x2⟩ := HSH.out (.inl b3.out)
        have x3 := HDH.out
        exact ⟨q - 1, ret_u64 (by omega), x1, by omega, by omega, _, rfl⟩
      · have b2 : (((r : Int) + (v1 : Int)) / 4294967296 != 0) = false := by rw [bne_eq_false_iff_eq]; omega
        have b3 := Lib.hid b1
        clear b1 g hr hq
        go_wp2
        go_quiet (fail)
        go_wp2
        go_roundw
        case rel =>
          have x3 := HDH.out
          have x4 := b3.out
          have x5 := hqq.out
          refine ⟨q - 1, r + v1, _, congrArg (Value.int .u64) (by omega), by go_num, by omega, by omega, rfl, ?_, by omega⟩
          rw [← HV.out.1]
          obtain ⟨q, rfl⟩ : ∃ j, q = j + 1 := ⟨q - 1, by omega⟩
          rw [Nat.add_sub_cancel, Nat.add_mul, Nat.one_mul]; omega
        case measure => first | (simp [intOf]; done) | (simp [intOf]; omega)
    · have g1 : ((q : Int) / 4294967296 != 0) = false := by rw [bne_eq_false_iff_eq]; omega
      have o := HO.out r hr
      obtain ⟨m0, m1, m2⟩ := mul_bound (q : Int) (v0 : Int) (by omega) (by omega) (by omega) (by omega)
      rw [Int.toNat_natCast, Int.toNat_natCast] at m2
      obtain ⟨S, hS⟩ : ∃ S, S = r * 4294967296 + u0 := ⟨_, rfl⟩
      rw [← hS] at o
      have hSH := Lib.hid hS
      obtain ⟨M, hM⟩ : ∃ M, M = q * v0 := ⟨_, rfl⟩
      have m3 : (q : Int) * (v0 : Int) = (M : Int) := by rw [hM]; rfl
      have m4 : (M : Int) ≤ 18446744065119617025 := by rw [m3] at m1; omega
      have hMH := Lib.hid hM
      clear m0 m1 m2 hS hM
      by_cases hSM : S < M
      · have s1 : (S : Int) < (M : Int) := by omega
        have q9 : 1 ≤ q := by
          rcases Nat.eq_zero_or_pos q with e | e
          · have := hMH.out; rw [e, Nat.zero_mul] at this; omega
          · exact e
        have j9 : (0 : Int) ≤ (q : Int) - 1 := by omega
        have HD := HGD.out q r (by rw [← hTT.out]; exact HV.out.1) (.inr (by rw [← hMH.out, ← hSH.out]; omega))
        have HS := HGS.out (q - 1) (r + v1) (by
          rw [← hTT.out, ← HV.out.1]
          obtain ⟨q, rfl⟩ : ∃ j, q = j + 1 := ⟨q - 1, by omega⟩
          rw [Nat.add_sub_cancel, Nat.add_mul, Nat.one_mul]; omega)
        have HDH := Lib.hid HD
        have HSH := Lib.hid HS
        have hrr := Lib.hid hr
        have hqq := Lib.hid hq
        have jq : (q : Int) ≤ 8589934592 := by omega
        have jr : (r : Int) ≤ 4294967295 := by omega
        clear HD HS
        by_cases b1 : 4294967296 ≤ r + v1
        · have b2 : (((r : Int) + (v1 : Int)) / 4294967296 != 0) = true := by rw [bne_iff_ne]; omega
          have b3 := Lib.hid b1
          clear b1 g hr hq
          go_wp2
          go_quiet (fail)
          go_wp2
          go_ret
          obtain ⟨x1, x2⟩ := HSH.out (.inl b3.out)
          have x3 := HDH.out
          exact ⟨q - 1, ret_u64 (by omega), x1, by omega, by omega, _, rfl⟩
        · have b2 : (((r : Int) + (v1 : Int)) / 4294967296 != 0) = false := by rw [bne_eq_false_iff_eq]; omega
          have b3 := Lib.hid b1
          clear b1 g hr hq
          go_wp2
          go_quiet (fail)
          go_wp2
          go_roundw
          case rel =>
            have x3 := HDH.out
            have x4 := b3.out
            have x5 := hqq.out
            refine ⟨q - 1, r + v1, _, congrArg (Value.int .u64) (by omega), by go_num, by omega, by omega, rfl, ?_, by omega⟩
            rw [← HV.out.1]
            obtain ⟨q, rfl⟩ : ∃ j, q = j + 1 := ⟨q - 1, by omega⟩
            rw [Nat.add_sub_cancel, Nat.add_mul, Nat.one_mul]; omega
          case measure => first | (simp [intOf]; done) | (simp [intOf]; omega)
      · have s1 : decide (S < M) = false := by simpa using hSM
        have HS := HGS.out q r (by rw [← hTT.out]; exact HV.out.1) (.inr ⟨by omega, by rw [← hMH.out, ← hSH.out]; omega⟩)
        have HSH := Lib.hid HS
        have jr : (r : Int) ≤ 4294967295 := by omega
        have jq : (q : Int) ≤ 4294967295 := by omega
        clear HS g hr hq hSM
        go_wp2
        go_quiet (fail)
        go_wp2
        go_ret
        obtain ⟨x1, x2⟩ := HSH.out
        exact ⟨q, rfl, x1, HV.out.2, x2, drawn2 _ _ _⟩
end Go.Proofs.YtbjclfmplndkcaaGreatDoor
