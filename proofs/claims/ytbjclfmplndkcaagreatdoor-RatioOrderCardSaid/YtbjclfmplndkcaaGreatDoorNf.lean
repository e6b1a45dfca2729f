/-
  PACKAGE nat, SIXTH PART: up, down.
-/
import Derived.Test.YtbjclfmplndkcaaGreatDoorNe
set_option linter.unusedVariables false
set_option linter.unusedSimpArgs false
set_option linter.unnecessarySimpa false
namespace Go.Proofs.YtbjclfmplndkcaaGreatDoor
open Go.RowKit Pl

theorem up_words (x z : Int) (n : Nat) (hn : n < 32) (hx0 : 0 ≤ x) (hx1 : x < 4294967296) (hz0 : 0 ≤ z) (hz1 : z.toNat < 2 ^ n) :
    bits BinOp.or IntKind.u32 z (IntKind.u64.wrap (x * 2 ^ n) % 4294967296) = ((z.toNat + x.toNat * 2 ^ n % 4294967296 : Nat) : Int) ∧
    IntKind.u64.wrap (x * 2 ^ n) / 4294967296 % 4294967296 = ((x.toNat * 2 ^ n / 4294967296 : Nat) : Int) ∧ x.toNat * 2 ^ n / 4294967296 < 2 ^ n ∧ z.toNat + x.toNat * 2 ^ n % 4294967296 < 4294967296 := by
  obtain ⟨a, rfl⟩ := Int.eq_ofNat_of_zero_le hx0
  obtain ⟨b, rfl⟩ := Int.eq_ofNat_of_zero_le hz0
  simp only [Int.toNat_natCast] at *
  have hp : 2 ^ n ≤ 2147483648 := by
    have := Nat.pow_le_pow_right (n := 2) (by omega) (show n ≤ 31 by omega)
    simpa using this
  have hdvd : 2 ^ n ∣ 4294967296 := by
    have := Nat.pow_dvd_pow 2 (show n ≤ 32 by omega)
    simpa using this
  have hpos : 0 < 2 ^ n := Nat.pow_pos (by omega)
  have hcast : ((a : Int) * 2 ^ n) = ((a * 2 ^ n : Nat) : Int) := by simp
  have hX : a * 2 ^ n ≤ 4294967295 * 2147483648 := Nat.mul_le_mul (by omega) hp
  have hlt : a * 2 ^ n < 4294967296 * 2 ^ n := Nat.mul_lt_mul_of_pos_right (by omega) hpos
  have hm : a * 2 ^ n % 4294967296 % 2 ^ n = 0 := by
    rw [Nat.mod_mod_of_dvd _ hdvd]; exact Nat.mul_mod_left a (2 ^ n)
  have hq : a * 2 ^ n / 4294967296 < 2 ^ n := Nat.div_lt_of_lt_mul hlt
  rw [hcast, wrap_u64']
  generalize a * 2 ^ n = X at *
  have e1 : (X : Int) % 18446744073709551616 = X := by omega
  rw [e1]
  have e2 : (X : Int) % 4294967296 = ((X % 4294967296 : Nat) : Int) := by omega
  have hsum : b + X % 4294967296 < 4294967296 := by
    obtain ⟨q, hq'⟩ := hdvd
    have h1 : X % 4294967296 < 4294967296 := Nat.mod_lt _ (by omega)
    obtain ⟨r, hr⟩ := Nat.dvd_of_mod_eq_zero hm
    rw [hr] at h1 ⊢
    rw [hq'] at h1 ⊢
    have h2 : r < q := Nat.lt_of_mul_lt_mul_left h1
    have h3 : 2 ^ n * (r + 1) ≤ 2 ^ n * q := Nat.mul_le_mul_left _ h2
    rw [Nat.mul_add, Nat.mul_one] at h3
    omega
  refine ⟨?_, by omega, hq, hsum⟩
  rw [e2, u32_or_nat _ _ (by omega) (by omega), Nat.or_comm, nat_join n _ _ hm hz1, Nat.add_comm]
set_option maxHeartbeats 1000000 in
theorem up_any (A : Option Addr) (c : Nat) (l : List Int) (n : Nat) (w : World) (h : Rd w A l) (hn : n < 32) (h8 : l.length ≤ 8192) :
    Calls Tryz.prog 55 #[.slice A l.length c, .int .u64 n] w fun e w' =>
      ∃ g o, e = .returned (.slice (some ⟨g, 0, none⟩) (l.length + 1) (l.length + 1)) ∧ o.length = l.length + 1 ∧ Bw w' g (l.length + 1) o ∧ val o = val l * 2 ^ n ∧ Below w.heap.size w w' ∧ w.heap.size ≤ g := by
  have hmk := make_words ((l.length : Int) + 1) (l.length + 1) (by omega) (by omega)
  go_enter Tryz.func55, Tryz.ntmps55
  go_wp2
  have hB0 : Below w.heap.size w (w.alloc (.cells (cellsOf (List.replicate (l.length + 1) 0)) 40)) := (Below.refl _ _).alloc (Nat.le_refl _) _
  have hK0 : Bw (w.alloc (.cells (cellsOf (List.replicate (l.length + 1) 0)) 40)) w.heap.size (l.length + 1) (List.replicate (l.length + 1) 0) := by
    have e := Bw.of_blk (Blk.new w 40 (cellsOf (List.replicate (l.length + 1) 0))) (InR.replicate _ (by omega) (by omega)) (by simp; omega)
    rwa [List.length_replicate] at e
  clear hmk
  go_loopw [15] (fun iv wr => ∃ (i : Nat) (out : List Int), i ≤ l.length ∧ iv = .int .i64 i ∧ out.length ≤ l.length + 1 ∧ l.length + 1 ≤ out.length ∧ Bw wr w.heap.size (l.length + 1) out ∧ Below w.heap.size w wr ∧
      Hid (val (out.take (i + 1)) = val (l.take i) * 2 ^ n ∧ (out.getD i 0).toNat < 2 ^ n ∧ ∀ j, i + 1 ≤ j → out.getD j 0 = 0)) (fun iv _ => l.length - (intOf iv).toNat)
  case atStart =>
    refine ⟨0, List.replicate (l.length + 1) 0, Nat.zero_le _, rfl, by simp, by simp, hK0, hB0, ?_⟩
    show _ = _ ∧ _
    refine ⟨?_, ?_, fun j _ => ?_⟩
    · rw [List.take_replicate, val_replicate]; simp [val]
    · simp [List.getD_eq_getElem?_getD, Nat.pow_pos]
    · simp only [List.getD_eq_getElem?_getD, List.getElem?_replicate]; split <;> rfl
  case round =>
    obtain ⟨i, out, hil, rfl, ho1, ho2, hK, hB, HV⟩ := hrel
    clear hK0 hB0
    by_cases hlt : i < l.length
    · obtain ⟨ad, rfl, hcl⟩ := (h.below hB).at_ hlt
      have hx := h.inr.getD i
      have hx0 := hx.1
      have hx1 := hx.2
      have hz := hK.inr.getD i
      have hz0 := hz.1
      have hz1 := hz.2
      have hc := hK.cell (j := i) (by omega)
      have hf := hK.frozen i
      have hc2 := hK.cell (j := i + 1) (by omega)
      have hf2 := hK.frozen (i + 1)
      have st := up_step l out i (2 ^ n) ((l.getD i 0).toNat * 2 ^ n) (by omega) HV.out.1 rfl
      obtain ⟨u1, u2, u3, u4⟩ := up_words (l.getD i 0) (out.getD i 0) n hn hx0 hx1 hz0 HV.out.2.1
      have hp : 2 ^ n < 4294967296 := by
        have := Nat.pow_le_pow_right (n := 2) (by omega) (show n ≤ 31 by omega)
        omega
      generalize l.getD i 0 = x at *
      generalize out.getD i 0 = z at *
      generalize out.getD (i + 1) 0 = z2 at *
      generalize x.toNat * 2 ^ n = X at *
      have ST := Lib.hid st
      have U := Lib.hid (And.intro u1 (And.intro u2 (And.intro u3 u4)))
      have HP := Lib.hid hp
      have HK := Lib.hid hK
      have HB := Lib.hid hB
      have HH := Lib.hid h
      clear st u1 u2 u3 u4 hx hz hK hB hp h
      go_wp2
      go_roundw
      case rel =>
        obtain ⟨u1, u2, u3, u4⟩ := U.out
        have hp := HP.out
        rw [u1, u2]
        refine ⟨i + 1, (out.set i ((z.toNat + X % 4294967296 : Nat) : Int)).set (i + 1) ((X / 4294967296 : Nat) : Int), by omega, by go_num, by simp; omega, by simp; omega, ?_, (HB.out.setCell (Nat.le_refl _) _).setCell (Nat.le_refl _) _, ?_⟩
        · exact (HK.out.set i (by omega) (by omega)).set (i + 1) (by omega) (by omega)
        · show _ = _ ∧ _
          refine ⟨ST.out, ?_, fun j hj => ?_⟩
          · rw [getD_set_eq _ _ _ (by simp; omega), Int.toNat_natCast]; exact u3
          · rw [getD_set_ne _ _ _ _ (by omega), getD_set_ne _ _ _ _ (by omega)]; exact HV.out.2.2 j (by omega)
      case measure => first | (simp [intOf]; done) | (simp [intOf]; omega)
    · have hi : i = l.length := by omega
      have HK := Lib.hid hK
      have HB := Lib.hid hB
      have HI := Lib.hid hi
      clear hi hK hB h
      go_wp2
      go_ret
      refine ⟨_, out, rfl, by omega, HK.out, ?_, HB.out, Nat.le_refl _⟩
      have e := HV.out.1
      rw [HI.out, List.take_length, List.take_of_length_le (by omega)] at e
      exact e

theorem or64' (x y : Int) (hx0 : 0 ≤ x) (hx1 : x < 4294967296) (h0 : 0 ≤ y) (h1 : y < 4294967296) :
    bits BinOp.or IntKind.u64 x (y * 4294967296) = ((x.toNat + 4294967296 * y.toNat : Nat) : Int) := by
  obtain ⟨a, rfl⟩ := Int.eq_ofNat_of_zero_le hx0
  obtain ⟨b, rfl⟩ := Int.eq_ofNat_of_zero_le h0
  have e : ((b : Int) * 4294967296) = ((b * 4294967296 : Nat) : Int) := by omega
  have h2 : a < 4294967296 := by omega
  rw [e, u64_or_nat _ _ (by omega) (by omega), Nat.or_comm, nat_join 32 _ _ (by omega) (by simpa using h2)]
  simp only [Int.toNat_natCast]
  omega
theorem shr_word (X n : Nat) : (X : Int) / 2 ^ n % 4294967296 = ((X / 2 ^ n % 4294967296 : Nat) : Int) := by simp
set_option maxHeartbeats 1000000 in
theorem down_any (B c : Nat) (A : Option Addr) (l : List Int) (n : Nat) (w : World) (h : Ow w B A c l) (hn : n < 32) :
    Calls Tryz.prog 59 #[.slice A l.length c, .int .u64 n] w fun e w' =>
      e = .returned (.slice A (words (val l / 2 ^ n)).length c) ∧ Ow w' B A c (words (val l / 2 ^ n)) ∧ w.grownBy w' (A.map (·.block)) := by
  have hpp : 0 < 2 ^ n := Nat.pow_pos (by omega)
  have hpd : 2 ^ n ∣ 4294967296 := by
    have := Nat.pow_dvd_pow 2 (show n ≤ 32 by omega)
    simpa using this
  rcases h with ⟨rfl, rfl, rfl⟩ | ⟨g, rfl, hb, hk⟩
  · have z : val ([] : List Int) / 2 ^ n = 0 := by simp [val]
    rw [z, words_zero]
    clear z
    go_enter Tryz.func59, Tryz.ntmps59
    go_wp2
    refine wp_loop_rounds 1 ?_
    rw [rounds_succ]
    go_wp2_with fail
    refine (cut_any none 0 [] w (Rd.nil _ _) (by simp)).mono ?_
    rintro e w1 ⟨rfl, rfl⟩
    go_wp2
    go_ret
    exact ⟨rfl, Ow.nil _ _, only_refl _ _⟩
  · have hlen := hk.le
    have hmax := hk.max
    have hrl := Lib.hid hk.inr
    have PP := Lib.hid hpp
    have PD := Lib.hid hpd
    clear hpp hpd
    go_enter Tryz.func59, Tryz.ntmps59
    go_wp2
    go_loopw [9] (fun iv wr => ∃ (i : Nat) (out : List Int), i ≤ l.length ∧ iv = .int .i64 i ∧ out.length ≤ l.length ∧ l.length ≤ out.length ∧ Bw wr g c out ∧ w.grownBy wr (some g) ∧
        Hid (val (l.take i) + 4294967296 ^ i * ((l.getD i 0).toNat % 2 ^ n) = val (out.take i) * 2 ^ n + (l.getD 0 0).toNat % 2 ^ n ∧ ∀ j, i ≤ j → out.getD j 0 = l.getD j 0)) (fun iv _ => l.length - (intOf iv).toNat)
    case atStart => exact ⟨0, l, Nat.zero_le _, rfl, Nat.le_refl _, Nat.le_refl _, hk, only_refl _ _, by show _ = _ ∧ _; simp [val]⟩
    case round =>
      obtain ⟨i, out, hil, rfl, ho1, ho2, hK, hG, HV⟩ := hrel
      by_cases hlt : i < l.length
      · have hc := hK.cell (j := i) (by omega)
        have hf := hK.frozen i
        have hx := hK.inr.getD i
        have hx0 := hx.1
        have hx1 := hx.2
        have hy := hK.inr.getD (i + 1)
        have hy0 := hy.1
        have hy1 := hy.2
        have hxl := HV.out.2 i (Nat.le_refl _)
        have hyl := HV.out.2 (i + 1) (by omega)
        have ST := down_step l out i (2 ^ n) PP.out PD.out (by omega) HV.out.1 _ rfl (by have := hrl.out.getD i; omega)
        rw [← hxl, ← hyl] at ST
        have hc2 : i + 1 < l.length → wr.cell? ⟨g, i + 1, none⟩ = some (.int .u32 (out.getD (i + 1) 0)) := fun hh => hK.cell (j := i + 1) (by omega)
        have hm0 : ¬ i + 1 < l.length → out.getD (i + 1) 0 = 0 := fun hh => by simp [List.getD_eq_getElem?_getD, Nat.le_trans ho1 (Nat.not_lt.1 hh)]
        generalize out.getD i 0 = x at *
        generalize hye : out.getD (i + 1) 0 = y at *
        have YL := Lib.hid hyl
        have HS := Lib.hid ST
        have HK := Lib.hid hK
        have HG := Lib.hid hG
        clear ST hK hG hk hx hy hxl hyl hye
        by_cases hi1 : i + 1 < l.length
        · have hc2 := hc2 hi1
          clear hm0
          have hor := or64' x y hx0 hx1 hy0 hy1
          have hi2 : (i : Int) + 1 < l.length := by omega
          generalize x.toNat + 4294967296 * y.toNat = X at *
          go_wp2
          go_roundw
          case rel =>
            rw [shr_word]
            have hlt2 : X / 2 ^ n % 4294967296 < 4294967296 := Nat.mod_lt _ (by omega)
            refine ⟨i + 1, out.set i ((X / 2 ^ n % 4294967296 : Nat) : Int), by omega, by go_num, by simp; omega, by simp; omega, HK.out.set i (by omega) (by omega), only_setCell HG.out i _, by rw [← YL.out]; exact HS.out, fun j hj => ?_⟩
            rw [getD_set_ne _ _ _ _ (by omega)]; exact HV.out.2 j (by omega)
          case measure => first | (simp [intOf]; done) | (simp [intOf]; omega)
        · obtain rfl := hm0 hi1
          clear hc2
          have hi2 : ¬ (i : Int) + 1 < l.length := by omega
          obtain ⟨X, rfl⟩ := Int.eq_ofNat_of_zero_le hx0
          go_wp2
          go_roundw
          case rel =>
            rw [shr_word]
            have hlt2 : X / 2 ^ n % 4294967296 < 4294967296 := Nat.mod_lt _ (by omega)
            refine ⟨i + 1, out.set i ((X / 2 ^ n % 4294967296 : Nat) : Int), by omega, by go_num, by simp; omega, by simp; omega, HK.out.set i (by omega) (by omega), only_setCell HG.out i _, ?_, fun j hj => ?_⟩
            · have e := HS.out
              rw [Int.toNat_natCast, Int.toNat_zero, Nat.mul_zero, Nat.add_zero] at e
              rw [← YL.out]; exact e
            · rw [getD_set_ne _ _ _ _ (by omega)]; exact HV.out.2 j (by omega)
          case measure => first | (simp [intOf]; done) | (simp [intOf]; omega)
      · have hi : i = l.length := by omega
        have hvo : val l / 2 ^ n = val out := by
          have e := HV.out.1
          rw [hi, List.take_length, List.take_of_length_le (by omega)] at e
          have e0 : l.getD l.length 0 = 0 := by simp [List.getD_eq_getElem?_getD]
          rw [e0] at e
          simp only [Int.toNat_zero, Nat.zero_mod, Nat.mul_zero, Nat.add_zero] at e
          rw [e, Nat.mul_comm, Nat.mul_add_div PP.out, Nat.div_eq_of_lt (Nat.mod_lt _ PP.out), Nat.add_zero]
        have T := cut_any (some ⟨g, 0, none⟩) c out wr hK.rd hK.le
        have hcw := cut_words hK.inr
        have hO := hK.take (cut out).length
        rw [← cut_take, hcw, ← hvo] at hO
        rw [hcw, ← hvo, show out.length = l.length by omega] at T
        have T' := Lib.hid T
        have O' := Lib.hid hO
        have G' := Lib.hid hG
        clear T hO hcw hvo HV hK hG hk hi
        go_wp2_with fail
        refine T'.out.mono ?_
        rintro e w1 ⟨rfl, rfl⟩
        go_wp2
        go_ret
        exact ⟨rfl, .inr ⟨g, rfl, hb, O'.out⟩, G'.out⟩
end Go.Proofs.YtbjclfmplndkcaaGreatDoor
