/-
  Stable texts joined: Ne, Nf, Ng.
-/
import Derived.Test.YtolbafckppafkaaGreatDoorYC
/-
  PACKAGE nat, FIFTH PART: Mul.
-/
set_option linter.unusedVariables false
set_option linter.unusedSimpArgs false
set_option linter.unnecessarySimpa false
namespace Go.Proofs.YtolbafckppafkaaGreatDoor
open Go.RowKit Pl

theorem mul_bound (x y : Int) (hx0 : 0 ≤ x) (hx1 : x < 4294967296) (hy0 : 0 ≤ y) (hy1 : y < 4294967296) : 0 ≤ x * y ∧ x * y ≤ 18446744065119617025 ∧ (x * y).toNat = x.toNat * y.toNat := by
  obtain ⟨a, rfl⟩ := Int.eq_ofNat_of_zero_le hx0
  obtain ⟨b, rfl⟩ := Int.eq_ofNat_of_zero_le hy0
  have h : a * b ≤ 4294967295 * 4294967295 := Nat.mul_le_mul (by omega) (by omega)
  rw [← Int.natCast_mul]
  refine ⟨by omega, by omega, ?_⟩
  rw [Int.toNat_natCast]; rfl

set_option maxHeartbeats 2000000 in
theorem Mul_pos (A A' : Option Addr) (c c' : Nat) (l m : List Int) (w : World) (h : Rd w A l) (h' : Rd w A' m) (hl : Norm l) (hm : Norm m) (hl0 : 0 < l.length) (hm0 : 0 < m.length) (h8 : l.length + m.length ≤ 8192) :
    Calls Tryz.prog 95 #[.slice A l.length c, .slice A' m.length c'] w fun e w' =>
      ∃ B d, e = .returned (.tuple #[.slice B (words (val l * val m)).length d, .int .i64 0]) ∧ Ow w' w.heap.size B d (words (val l * val m)) ∧ Below w.heap.size w w' := by
  have C1 := Lib.hid (checked_ok A A' c c' l m w h h' hl (by omega) hm (by omega))
  have hmk := make_words ((l.length : Int) + m.length) (l.length + m.length) (by omega) (by omega)
  have hln : ((l.length : Int) == 0) = false := beq_eq_false_iff_ne.2 (by omega)
  have hmn : ((m.length : Int) == 0) = false := beq_eq_false_iff_ne.2 (by omega)
  go_enter Tryz.func95, Tryz.ntmps95
  go_wp2_with fail
  refine C1.out.mono ?_
  rintro e w' ⟨rfl, rfl⟩
  go_wp2
  have hB0 : Below w.heap.size w (w.alloc (.cells (cellsOf (List.replicate (l.length + m.length) 0)) 43)) := (Below.refl _ _).alloc (Nat.le_refl _) _
  have hK0 : Bw (w.alloc (.cells (cellsOf (List.replicate (l.length + m.length) 0)) 43)) w.heap.size (l.length + m.length) (List.replicate (l.length + m.length) 0) := by
    have e := Bw.of_blk (Blk.new w 43 (cellsOf (List.replicate (l.length + m.length) 0))) (InR.replicate _ (by omega) (by omega)) (by simp; omega)
    rwa [List.length_replicate] at e
  clear hmk
  go_loopw [41] (fun iv wr => ∃ (i : Nat) (out : List Int), i ≤ l.length ∧ iv = .int .i64 i ∧ out.length ≤ l.length + m.length ∧ l.length + m.length ≤ out.length ∧ Bw wr w.heap.size (l.length + m.length) out ∧ Below w.heap.size w wr ∧
      Hid (val (out.take (i + m.length)) = val (l.take i) * val m ∧ ∀ j, i + m.length ≤ j → out.getD j 0 = 0)) (fun iv _ => l.length - (intOf iv).toNat)
  case atStart =>
    refine ⟨0, List.replicate (l.length + m.length) 0, Nat.zero_le _, rfl, by simp, by simp, hK0, hB0, ?_⟩
    show _ = _ ∧ _
    refine ⟨?_, fun j _ => ?_⟩
    · rw [List.take_replicate, val_replicate]; simp [val]
    · simp only [List.getD_eq_getElem?_getD, List.getElem?_replicate]; split <;> rfl
  case round =>
    obtain ⟨i, out, hil, rfl, ho1, ho2, hK, hB, HV⟩ := hrel
    clear hK0 hB0
    obtain ⟨wo, rfl⟩ : ∃ wo : World, wo = wr := ⟨_, rfl⟩
    by_cases hlt : i < l.length
    · obtain ⟨ad, rfl, hcl⟩ := (h.below hB).at_ hlt
      have hx := h.inr.getD i
      have hx0 := hx.1
      have hx1 := hx.2
      have hxs := take_succ_val l i
      generalize l.getD i 0 = x at *
      have HX := Lib.hid hxs
      have HK := Lib.hid hK
      have HB := Lib.hid hB
      clear hx hxs hK hB
      go_wp2
      go_loopw [10, 48] (fun cv kv wr => ∃ (k s : Nat) (o : List Int), k ≤ m.length ∧ kv = .int .i64 k ∧ cv = .int .u64 s ∧ s < 4294967296 ∧ o.length ≤ l.length + m.length ∧ l.length + m.length ≤ o.length ∧ Bw wr w.heap.size (l.length + m.length) o ∧ Below w.heap.size w wr ∧
          Hid (val (o.take (i + k)) + 4294967296 ^ (i + k) * s = val (out.take (i + k)) + 4294967296 ^ i * (x.toNat * val (m.take k)) ∧ ∀ j, i + k ≤ j → o.getD j 0 = out.getD j 0)) (fun _ kv _ => m.length - (intOf kv).toNat)
      case atStart => exact ⟨0, 0, out, Nat.zero_le _, rfl, rfl, by omega, ho1, ho2, HK.out, HB.out, by show _ = _ ∧ _; simp [val]⟩
      case round =>
        obtain ⟨k, s, o, hkl, rfl, rfl, hs, hoo1, hoo2, hK, hB, HW⟩ := hrel
        by_cases hkm : k < m.length
        · obtain ⟨ad', rfl, hcm⟩ := (h'.below hB).at_ hkm
          have hy := h'.inr.getD k
          have hz := hK.inr.getD (i + k)
          have hc := hK.cell (j := i + k) (by omega)
          have hf := hK.frozen (i + k)
          obtain ⟨p0, p1, p2⟩ := mul_bound x (m.getD k 0) hx0 hx1 hy.1 hy.2
          have st := mul_step m o out i k x.toNat s (s + x.toNat * (m.getD k 0).toNat + (out.getD (i + k) 0).toNat) (by omega) HW.out.1 rfl
          rw [← p2, ← HW.out.2 (i + k) (Nat.le_refl _)] at st
          generalize o.getD (i + k) 0 = z at *
          generalize m.getD k 0 = y at *
          have hz0 := hz.1
          have hz1 := hz.2
          have hy0 := hy.1
          have hy1 := hy.2
          generalize hp : x * y = p at *
          have ST := Lib.hid st
          have HK2 := Lib.hid hK
          have HB2 := Lib.hid hB
          have HH := Lib.hid h
          have HH' := Lib.hid h'
          clear st hK hB p2 hy hz h h' hl hm C1 HB HK HX HV
          go_wp2
          go_roundw
          case rel =>
            refine ⟨k + 1, (s + p.toNat + z.toNat) / 4294967296, o.set (i + k) (((s + p.toNat + z.toNat) % 4294967296 : Nat) : Int), by omega, by go_num, ?_, by omega, by simp; omega, by simp; omega, ?_, HB2.out.setCell (Nat.le_refl _) _, ST.out, fun j hj => ?_⟩
            · congr 1; omega
            · have e : ((s : Int) + (p + z)) % 4294967296 = (((s + p.toNat + z.toNat) % 4294967296 : Nat) : Int) := by omega
              rw [e]
              exact HK2.out.set (i + k) (by omega) (by omega)
            · rw [getD_set_ne _ _ _ _ (by omega)]; exact HW.out.2 j (by omega)
          case measure => first | (simp [intOf]; done) | (simp [intOf]; omega)
        · have hkk : k = m.length := by omega
          subst hkk
          have hc := hK.cell (j := i + m.length) (by omega)
          have hf := hK.frozen (i + m.length)
          have e1 := take_set_val o (i + m.length) (s : Int) (by omega)
          have e2 := HW.out.1
          rw [List.take_length, HV.out.1] at e2
          rw [Int.toNat_natCast, e2] at e1
          have e3 : val (l.take i) * val m + 4294967296 ^ i * (x.toNat * val m) = val (l.take (i + 1)) * val m := by
            rw [HX.out, Nat.add_mul, Nat.mul_assoc]
          rw [e3] at e1
          have E1 := Lib.hid e1
          have HK2 := Lib.hid hK
          have HB2 := Lib.hid hB
          generalize o.getD (i + m.length) 0 = z at *
          clear e1 e2 e3 hK hB HK HB HX
          go_wp2
          go_roundw
          case rel =>
            refine ⟨i + 1, o.set (i + m.length) (s : Int), by omega, by go_num, by simp; omega, by simp; omega, HK2.out.set _ (by omega) (by omega), HB2.out.setCell (Nat.le_refl _) _, ?_⟩
            show _ = _ ∧ _
            refine ⟨?_, fun j hj => ?_⟩
            · rw [show i + 1 + m.length = i + m.length + 1 by omega]; exact E1.out
            · rw [getD_set_ne _ _ _ _ (by omega), HW.out.2 j (by omega)]; exact HV.out.2 j (by omega)
          case measure => first | (simp [intOf]; done) | (simp [intOf]; omega)
    · have hi : i = l.length := by omega
      subst hi
      have hvo : val out = val l * val m := by
        have e := HV.out.1
        rwa [List.take_length, List.take_of_length_le (by omega)] at e
      have T := told_ok (some ⟨w.heap.size, 0, none⟩) (l.length + m.length) out wo hK.rd hK.le (by have := cut_le out; omega)
      have hcw := cut_words hK.inr
      have hO := hK.take (cut out).length
      rw [← cut_take, hcw, hvo] at hO
      rw [hcw, hvo, show out.length = l.length + m.length by omega] at T
      have T' := Lib.hid T
      have O' := Lib.hid hO
      have B' := Lib.hid hB
      clear T hO hcw hvo HV hK hB h h' hl hm C1
      go_wp2_with fail
      refine T'.out.mono ?_
      rintro e w1 ⟨rfl, rfl⟩
      go_wp2
      go_ret2
      exact ⟨_, _, rfl, .inr ⟨_, rfl, Nat.le_refl _, O'.out⟩, B'.out⟩

set_option maxHeartbeats 400000 in
theorem Mul_any (A A' : Option Addr) (c c' : Nat) (l m : List Int) (w : World) (h : Rd w A l) (h' : Rd w A' m) (hl : Norm l) (hm : Norm m) (h8 : l.length + m.length ≤ 8192) :
    Calls Tryz.prog 95 #[.slice A l.length c, .slice A' m.length c'] w fun e w' =>
      ∃ B d, e = .returned (.tuple #[.slice B (words (val l * val m)).length d, .int .i64 0]) ∧ Ow w' w.heap.size B d (words (val l * val m)) ∧ Below w.heap.size w w' := by
  by_cases hl0 : 0 < l.length
  · by_cases hm0 : 0 < m.length
    · exact Mul_pos A A' c c' l m w h h' hl hm hl0 hm0 h8
    · have he : m = [] := List.eq_nil_of_length_eq_zero (by omega)
      subst he
      have C1 := Lib.hid (checked_ok A A' c c' l [] w h h' hl (by omega) hm (by simp))
      have z : val l * val [] = 0 := by simp [val]
      rw [z, words_zero]
      have hln : ((l.length : Int) == 0) = false := beq_eq_false_iff_ne.2 (by omega)
      clear z h h' hl hm
      go_enter Tryz.func95, Tryz.ntmps95
      go_wp2_with fail
      refine C1.out.mono ?_
      rintro e w' ⟨rfl, rfl⟩
      go_wp2
      go_ret2
      exact ⟨none, 0, rfl, Ow.nil _ _, Below.refl _ _⟩
  · have he : l = [] := List.eq_nil_of_length_eq_zero (by omega)
    subst he
    have C1 := Lib.hid (checked_ok A A' c c' [] m w h h' hl (by simp) hm (by omega))
    have z : val [] * val m = 0 := by simp [val]
    rw [z, words_zero]
    clear z h h' hl hm
    go_enter Tryz.func95, Tryz.ntmps95
    go_wp2_with fail
    refine C1.out.mono ?_
    rintro e w' ⟨rfl, rfl⟩
    go_wp2
    go_ret2
    exact ⟨none, 0, rfl, Ow.nil _ _, Below.refl _ _⟩
end Go.Proofs.YtolbafckppafkaaGreatDoor

/-
  PACKAGE nat, SIXTH PART: up, down.
-/
set_option linter.unusedVariables false
set_option linter.unusedSimpArgs false
set_option linter.unnecessarySimpa false
namespace Go.Proofs.YtolbafckppafkaaGreatDoor
open Go.RowKit Pl

theorem up_words (x z : Int) (n : Nat) (hn : n < 32) (hx0 : 0 ≤ x) (hx1 : x < 4294967296) (hz0 : 0 ≤ z) (hz1 : z.toNat < 2 ^ n) :
    bits BinOp.or IntKind.u32 z (IntKind.u64.wrap (x * 2 ^ n) % 4294967296) = ((z.toNat + x.toNat * 2 ^ n % 4294967296 : Nat) : Int) ∧
    IntKind.u64.wrap (x * 2 ^ n) / 4294967296 % 4294967296 = ((x.toNat * 2 ^ n / 4294967296 : Nat) : Int) ∧ x.toNat * 2 ^ n / 4294967296 < 2 ^ n ∧ z.toNat + x.toNat * 2 ^ n % 4294967296 < 4294967296 := by
  obtain ⟨a, rfl⟩ := Int.eq_ofNat_of_zero_le hx0
  obtain ⟨b, rfl⟩ := Int.eq_ofNat_of_zero_le hz0
  simp only [Int.toNat_natCast] at *
  have hp : 2 ^ n ≤ 2147483648 := by
    have := Nat.pow_le_pow_right (n := 2) (by omega) (show n ≤ 31 by omega)
    simpa using this
  have hdvd : 2 ^ n ∣ 4294967296 := by
    have := Nat.pow_dvd_pow 2 (show n ≤ 32 by omega)
    simpa using this
  have hpos : 0 < 2 ^ n := Nat.pow_pos (by omega)
  have hcast : ((a : Int) * 2 ^ n) = ((a * 2 ^ n : Nat) : Int) := by simp
  have hX : a * 2 ^ n ≤ 4294967295 * 2147483648 := Nat.mul_le_mul (by omega) hp
  have hlt : a * 2 ^ n < 4294967296 * 2 ^ n := Nat.mul_lt_mul_of_pos_right (by omega) hpos
  have hm : a * 2 ^ n % 4294967296 % 2 ^ n = 0 := by
    rw [Nat.mod_mod_of_dvd _ hdvd]; exact Nat.mul_mod_left a (2 ^ n)
  have hq : a * 2 ^ n / 4294967296 < 2 ^ n := Nat.div_lt_of_lt_mul hlt
  rw [hcast, wrap_u64']
  generalize a * 2 ^ n = X at *
  have e1 : (X : Int) % 18446744073709551616 = X := by omega
  rw [e1]
  have e2 : (X : Int) % 4294967296 = ((X % 4294967296 : Nat) : Int) := by omega
  have hsum : b + X % 4294967296 < 4294967296 := by
    obtain ⟨q, hq'⟩ := hdvd
    have h1 : X % 4294967296 < 4294967296 := Nat.mod_lt _ (by omega)
    obtain ⟨r, hr⟩ := Nat.dvd_of_mod_eq_zero hm
    rw [hr] at h1 ⊢
    rw [hq'] at h1 ⊢
    have h2 : r < q := Nat.lt_of_mul_lt_mul_left h1
    have h3 : 2 ^ n * (r + 1) ≤ 2 ^ n * q := Nat.mul_le_mul_left _ h2
    rw [Nat.mul_add, Nat.mul_one] at h3
    omega
  refine ⟨?_, by omega, hq, hsum⟩
  rw [e2, u32_or_nat _ _ (by omega) (by omega), Nat.or_comm, nat_join n _ _ hm hz1, Nat.add_comm]
set_option maxHeartbeats 1000000 in
theorem up_any (A : Option Addr) (c : Nat) (l : List Int) (n : Nat) (w : World) (h : Rd w A l) (hn : n < 32) (h8 : l.length ≤ 8192) :
    Calls Tryz.prog 116 #[.slice A l.length c, .int .u64 n] w fun e w' =>
      ∃ g o, e = .returned (.slice (some ⟨g, 0, none⟩) (l.length + 1) (l.length + 1)) ∧ o.length = l.length + 1 ∧ Bw w' g (l.length + 1) o ∧ val o = val l * 2 ^ n ∧ Below w.heap.size w w' ∧ w.heap.size ≤ g := by
  have hmk := make_words ((l.length : Int) + 1) (l.length + 1) (by omega) (by omega)
  go_enter Tryz.func116, Tryz.ntmps116
  go_wp2
  have hB0 : Below w.heap.size w (w.alloc (.cells (cellsOf (List.replicate (l.length + 1) 0)) 43)) := (Below.refl _ _).alloc (Nat.le_refl _) _
  have hK0 : Bw (w.alloc (.cells (cellsOf (List.replicate (l.length + 1) 0)) 43)) w.heap.size (l.length + 1) (List.replicate (l.length + 1) 0) := by
    have e := Bw.of_blk (Blk.new w 43 (cellsOf (List.replicate (l.length + 1) 0))) (InR.replicate _ (by omega) (by omega)) (by simp; omega)
    rwa [List.length_replicate] at e
  clear hmk
  go_loopw [15] (fun iv wr => ∃ (i : Nat) (out : List Int), i ≤ l.length ∧ iv = .int .i64 i ∧ out.length ≤ l.length + 1 ∧ l.length + 1 ≤ out.length ∧ Bw wr w.heap.size (l.length + 1) out ∧ Below w.heap.size w wr ∧
      Hid (val (out.take (i + 1)) = val (l.take i) * 2 ^ n ∧ (out.getD i 0).toNat < 2 ^ n ∧ ∀ j, i + 1 ≤ j → out.getD j 0 = 0)) (fun iv _ => l.length - (intOf iv).toNat)
  case atStart =>
    refine ⟨0, List.replicate (l.length + 1) 0, Nat.zero_le _, rfl, by simp, by simp, hK0, hB0, ?_⟩
    show _ = _ ∧ _
    refine ⟨?_, ?_, fun j _ => ?_⟩
    · rw [List.take_replicate, val_replicate]; simp [val]
    · simp [List.getD_eq_getElem?_getD, Nat.pow_pos]
    · simp only [List.getD_eq_getElem?_getD, List.getElem?_replicate]; split <;> rfl
  case round =>
    obtain ⟨i, out, hil, rfl, ho1, ho2, hK, hB, HV⟩ := hrel
    clear hK0 hB0
    by_cases hlt : i < l.length
    · obtain ⟨ad, rfl, hcl⟩ := (h.below hB).at_ hlt
      have hx := h.inr.getD i
      have hx0 := hx.1
      have hx1 := hx.2
      have hz := hK.inr.getD i
      have hz0 := hz.1
      have hz1 := hz.2
      have hc := hK.cell (j := i) (by omega)
      have hf := hK.frozen i
      have hc2 := hK.cell (j := i + 1) (by omega)
      have hf2 := hK.frozen (i + 1)
      have st := up_step l out i (2 ^ n) ((l.getD i 0).toNat * 2 ^ n) (by omega) HV.out.1 rfl
      obtain ⟨u1, u2, u3, u4⟩ := up_words (l.getD i 0) (out.getD i 0) n hn hx0 hx1 hz0 HV.out.2.1
      have hp : 2 ^ n < 4294967296 := by
        have := Nat.pow_le_pow_right (n := 2) (by omega) (show n ≤ 31 by omega)
        omega
      generalize l.getD i 0 = x at *
      generalize out.getD i 0 = z at *
      generalize out.getD (i + 1) 0 = z2 at *
      generalize x.toNat * 2 ^ n = X at *
      have ST := Lib.hid st
      have U := Lib.hid (And.intro u1 (And.intro u2 (And.intro u3 u4)))
      have HP := Lib.hid hp
      have HK := Lib.hid hK
      have HB := Lib.hid hB
      have HH := Lib.hid h
      clear st u1 u2 u3 u4 hx hz hK hB hp h
      go_wp2
      go_roundw
      case rel =>
        obtain ⟨u1, u2, u3, u4⟩ := U.out
        have hp := HP.out
        rw [u1, u2]
        refine ⟨i + 1, (out.set i ((z.toNat + X % 4294967296 : Nat) : Int)).set (i + 1) ((X / 4294967296 : Nat) : Int), by omega, by go_num, by simp; omega, by simp; omega, ?_, (HB.out.setCell (Nat.le_refl _) _).setCell (Nat.le_refl _) _, ?_⟩
        · exact (HK.out.set i (by omega) (by omega)).set (i + 1) (by omega) (by omega)
        · show _ = _ ∧ _
          refine ⟨ST.out, ?_, fun j hj => ?_⟩
          · rw [getD_set_eq _ _ _ (by simp; omega), Int.toNat_natCast]; exact u3
          · rw [getD_set_ne _ _ _ _ (by omega), getD_set_ne _ _ _ _ (by omega)]; exact HV.out.2.2 j (by omega)
      case measure => first | (simp [intOf]; done) | (simp [intOf]; omega)
    · have hi : i = l.length := by omega
      have HK := Lib.hid hK
      have HB := Lib.hid hB
      have HI := Lib.hid hi
      clear hi hK hB h
      go_wp2
      go_ret
      refine ⟨_, out, rfl, by omega, HK.out, ?_, HB.out, Nat.le_refl _⟩
      have e := HV.out.1
      rw [HI.out, List.take_length, List.take_of_length_le (by omega)] at e
      exact e

theorem or64' (x y : Int) (hx0 : 0 ≤ x) (hx1 : x < 4294967296) (h0 : 0 ≤ y) (h1 : y < 4294967296) :
    bits BinOp.or IntKind.u64 x (y * 4294967296) = ((x.toNat + 4294967296 * y.toNat : Nat) : Int) := by
  obtain ⟨a, rfl⟩ := Int.eq_ofNat_of_zero_le hx0
  obtain ⟨b, rfl⟩ := Int.eq_ofNat_of_zero_le h0
  have e : ((b : Int) * 4294967296) = ((b * 4294967296 : Nat) : Int) := by omega
  have h2 : a < 4294967296 := by omega
  rw [e, u64_or_nat _ _ (by omega) (by omega), Nat.or_comm, nat_join 32 _ _ (by omega) (by simpa using h2)]
  simp only [Int.toNat_natCast]
  omega
theorem shr_word (X n : Nat) : (X : Int) / 2 ^ n % 4294967296 = ((X / 2 ^ n % 4294967296 : Nat) : Int) := by simp
set_option maxHeartbeats 1000000 in
theorem down_any (B c : Nat) (A : Option Addr) (l : List Int) (n : Nat) (w : World) (h : Ow w B A c l) (hn : n < 32) :
    Calls Tryz.prog 120 #[.slice A l.length c, .int .u64 n] w fun e w' =>
      e = .returned (.slice A (words (val l / 2 ^ n)).length c) ∧ Ow w' B A c (words (val l / 2 ^ n)) ∧ w.grownBy w' (A.map (·.block)) := by
  have hpp : 0 < 2 ^ n := Nat.pow_pos (by omega)
  have hpd : 2 ^ n ∣ 4294967296 := by
    have := Nat.pow_dvd_pow 2 (show n ≤ 32 by omega)
    simpa using this
  rcases h with ⟨rfl, rfl, rfl⟩ | ⟨g, rfl, hb, hk⟩
  · have z : val ([] : List Int) / 2 ^ n = 0 := by simp [val]
    rw [z, words_zero]
    clear z
    go_enter Tryz.func120, Tryz.ntmps120
    go_wp2
    refine wp_loop_rounds 1 ?_
    rw [rounds_succ]
    go_wp2_with fail
    refine (cut_any none 0 [] w (Rd.nil _ _) (by simp)).mono ?_
    rintro e w1 ⟨rfl, rfl⟩
    go_wp2
    go_ret
    exact ⟨rfl, Ow.nil _ _, only_refl _ _⟩
  · have hlen := hk.le
    have hmax := hk.max
    have hrl := Lib.hid hk.inr
    have PP := Lib.hid hpp
    have PD := Lib.hid hpd
    clear hpp hpd
    go_enter Tryz.func120, Tryz.ntmps120
    go_wp2
    go_loopw [9] (fun iv wr => ∃ (i : Nat) (out : List Int), i ≤ l.length ∧ iv = .int .i64 i ∧ out.length ≤ l.length ∧ l.length ≤ out.length ∧ Bw wr g c out ∧ w.grownBy wr (some g) ∧
        Hid (val (l.take i) + 4294967296 ^ i * ((l.getD i 0).toNat % 2 ^ n) = val (out.take i) * 2 ^ n + (l.getD 0 0).toNat % 2 ^ n ∧ ∀ j, i ≤ j → out.getD j 0 = l.getD j 0)) (fun iv _ => l.length - (intOf iv).toNat)
    case atStart => exact ⟨0, l, Nat.zero_le _, rfl, Nat.le_refl _, Nat.le_refl _, hk, only_refl _ _, by show _ = _ ∧ _; simp [val]⟩
    case round =>
      obtain ⟨i, out, hil, rfl, ho1, ho2, hK, hG, HV⟩ := hrel
      by_cases hlt : i < l.length
      · have hc := hK.cell (j := i) (by omega)
        have hf := hK.frozen i
        have hx := hK.inr.getD i
        have hx0 := hx.1
        have hx1 := hx.2
        have hy := hK.inr.getD (i + 1)
        have hy0 := hy.1
        have hy1 := hy.2
        have hxl := HV.out.2 i (Nat.le_refl _)
        have hyl := HV.out.2 (i + 1) (by omega)
        have ST := down_step l out i (2 ^ n) PP.out PD.out (by omega) HV.out.1 _ rfl (by have := hrl.out.getD i; omega)
        rw [← hxl, ← hyl] at ST
        have hc2 : i + 1 < l.length → wr.cell? ⟨g, i + 1, none⟩ = some (.int .u32 (out.getD (i + 1) 0)) := fun hh => hK.cell (j := i + 1) (by omega)
        have hm0 : ¬ i + 1 < l.length → out.getD (i + 1) 0 = 0 := fun hh => by simp [List.getD_eq_getElem?_getD, Nat.le_trans ho1 (Nat.not_lt.1 hh)]
        generalize out.getD i 0 = x at *
        generalize hye : out.getD (i + 1) 0 = y at *
        have YL := Lib.hid hyl
        have HS := Lib.hid ST
        have HK := Lib.hid hK
        have HG := Lib.hid hG
        clear ST hK hG hk hx hy hxl hyl hye
        by_cases hi1 : i + 1 < l.length
        · have hc2 := hc2 hi1
          clear hm0
          have hor := or64' x y hx0 hx1 hy0 hy1
          have hi2 : (i : Int) + 1 < l.length := by omega
          generalize x.toNat + 4294967296 * y.toNat = X at *
          go_wp2
          go_roundw
          case rel =>
            rw [shr_word]
            have hlt2 : X / 2 ^ n % 4294967296 < 4294967296 := Nat.mod_lt _ (by omega)
            refine ⟨i + 1, out.set i ((X / 2 ^ n % 4294967296 : Nat) : Int), by omega, by go_num, by simp; omega, by simp; omega, HK.out.set i (by omega) (by omega), only_setCell HG.out i _, by rw [← YL.out]; exact HS.out, fun j hj => ?_⟩
            rw [getD_set_ne _ _ _ _ (by omega)]; exact HV.out.2 j (by omega)
          case measure => first | (simp [intOf]; done) | (simp [intOf]; omega)
        · obtain rfl := hm0 hi1
          clear hc2
          have hi2 : ¬ (i : Int) + 1 < l.length := by omega
          obtain ⟨X, rfl⟩ := Int.eq_ofNat_of_zero_le hx0
          go_wp2
          go_roundw
          case rel =>
            rw [shr_word]
            have hlt2 : X / 2 ^ n % 4294967296 < 4294967296 := Nat.mod_lt _ (by omega)
            refine ⟨i + 1, out.set i ((X / 2 ^ n % 4294967296 : Nat) : Int), by omega, by go_num, by simp; omega, by simp; omega, HK.out.set i (by omega) (by omega), only_setCell HG.out i _, ?_, fun j hj => ?_⟩
            · have e := HS.out
              rw [Int.toNat_natCast, Int.toNat_zero, Nat.mul_zero, Nat.add_zero] at e
              rw [← YL.out]; exact e
            · rw [getD_set_ne _ _ _ _ (by omega)]; exact HV.out.2 j (by omega)
          case measure => first | (simp [intOf]; done) | (simp [intOf]; omega)
      · have hi : i = l.length := by omega
        have hvo : val l / 2 ^ n = val out := by
          have e := HV.out.1
          rw [hi, List.take_length, List.take_of_length_le (by omega)] at e
          have e0 : l.getD l.length 0 = 0 := by simp [List.getD_eq_getElem?_getD]
          rw [e0] at e
          simp only [Int.toNat_zero, Nat.zero_mod, Nat.mul_zero, Nat.add_zero] at e
          rw [e, Nat.mul_comm, Nat.mul_add_div PP.out, Nat.div_eq_of_lt (Nat.mod_lt _ PP.out), Nat.add_zero]
        have T := cut_any (some ⟨g, 0, none⟩) c out wr hK.rd hK.le
        have hcw := cut_words hK.inr
        have hO := hK.take (cut out).length
        rw [← cut_take, hcw, ← hvo] at hO
        rw [hcw, ← hvo, show out.length = l.length by omega] at T
        have T' := Lib.hid T
        have O' := Lib.hid hO
        have G' := Lib.hid hG
        clear T hO hcw hvo HV hK hG hk hi
        go_wp2_with fail
        refine T'.out.mono ?_
        rintro e w1 ⟨rfl, rfl⟩
        go_wp2
        go_ret
        exact ⟨rfl, .inr ⟨g, rfl, hb, O'.out⟩, G'.out⟩
end Go.Proofs.YtolbafckppafkaaGreatDoor

/-
  PACKAGE nat, SEVENTH PART: guess.
-/
set_option linter.unusedVariables false
set_option linter.unusedSimpArgs false
set_option linter.unnecessarySimpa false
namespace Go.Proofs.YtolbafckppafkaaGreatDoor
open Go.RowKit Pl

theorem or64n (a b : Nat) (ha : a < 4294967296) (hb : b < 4294967296) :
    bits BinOp.or IntKind.u64 ((a : Int) * 4294967296) (b : Int) = ((a * 4294967296 + b : Nat) : Int) := by
  have := or64 a b ha (by omega) (by omega)
  rwa [Int.toNat_natCast] at this

theorem ret_u64 {a b : Int} (h : a = b) : Ending.returned (.int .u64 a) = .returned (.int .u64 b) := by rw [h]
set_option maxHeartbeats 1000000 in
theorem guess_any (A A' : Option Addr) (c c' m : Nat) (p v : List Int) (w : World) (h : Rd w A p) (h' : Rd w A' v) (hp : p.length = m + 1) (hv : v.length = m) (hm : 2 ≤ m) (hlt : val p < val v * 4294967296) (htop : 2147483648 ≤ v.getD (m - 1) 0) (hk8 : m ≤ 8192) :
    Calls Tryz.prog 117 #[.slice A (m + 1) c, .slice A' m c'] w fun e w' =>
      ∃ x : Nat, e = .returned (.int .u64 x) ∧ x < 4294967296 ∧ val p / val v ≤ x ∧ x ≤ val p / val v + 1 ∧ ∃ n, w' = w.drewN n := by
  obtain ⟨k, hk⟩ : ∃ k, k = m - 2 := ⟨_, rfl⟩
  have E1 : m - 1 = k + 1 := by omega
  have E2 : m - 2 = k := by omega
  have E3 : m = k + 2 := by omega
  have GD := fun q r => guess_down p v k q r (by omega) (by omega) h.inr hlt
  have GS := fun q r => guess_stop p v k q r (by omega) (by omega) h'.inr hlt (by rw [← E1]; omega)
  have GT := top_le (B := 4294967296) (P := 4294967296 ^ k) (v1 := (v.getD (k + 1) 0).toNat) (v0 := (v.getD k 0).toNat) (vr := val (v.take k))
    (u2 := (p.getD (k + 2) 0).toNat) (u1 := (p.getD (k + 1) 0).toNat) (u0 := (p.getD k 0).toNat) (ur := val (p.take k))
    (by have := val_lt (h'.inr.take k); rwa [List.length_take, Nat.min_eq_left (by omega)] at this)
    (by rw [← top3 p k (by omega), ← top2 v k (by omega)]; exact hlt)
  rw [← E3, ← E1, ← E2] at GT
  have E4 : k + 2 = m := by omega
  have E5 : k + 1 = m - 1 := by omega
  simp only [E4, E5] at GD GS
  simp only [← E2] at GD GS
  have GL : val p / val v * (v.getD (m - 1) 0).toNat ≤ (p.getD m 0).toNat * 4294967296 + (p.getD (m - 1) 0).toNat := by
    have e1 := top2 v k (by omega)
    have e2 := top3 p k (by omega)
    have e3 : val p / val v * val v ≤ val p := Nat.div_mul_le_self _ _
    have h1 := val_lt (h.inr.take k)
    rw [List.length_take, Nat.min_eq_left (by omega)] at h1
    rw [E4, E5] at e2
    rw [E5] at e1
    have hb0 := h.inr.getD k
    generalize val p / val v = Q at *
    rw [e1, e2] at e3
    exact guess_upper (Nat.pow_pos (by omega)) (by omega) h1 (by omega) e3
  obtain ⟨a, rfl, hca⟩ := h.some_ (by omega)
  obtain ⟨b, rfl, hcb⟩ := h'.some_ (by omega)
  have p2 := hca m (by omega)
  have p1 := hca (m - 1) (by omega)
  have p0 := hca (m - 2) (by omega)
  have q1 := hcb (m - 1) (by omega)
  have q0 := hcb (m - 2) (by omega)
  have b2 := h.inr.getD m
  have b1 := h.inr.getD (m - 1)
  have b0 := h.inr.getD (m - 2)
  have d1 := h'.inr.getD (m - 1)
  have d0 := h'.inr.getD (m - 2)
  clear E1 E2 E3 E4 E5 hk
  obtain ⟨u2, hu2⟩ := Int.eq_ofNat_of_zero_le b2.1
  obtain ⟨u1, hu1⟩ := Int.eq_ofNat_of_zero_le b1.1
  obtain ⟨u0, hu0⟩ := Int.eq_ofNat_of_zero_le b0.1
  obtain ⟨v1, hv1⟩ := Int.eq_ofNat_of_zero_le d1.1
  obtain ⟨v0, hv0⟩ := Int.eq_ofNat_of_zero_le d0.1
  simp only [hu2, hu1, hu0, hv1, hv0, Int.toNat_natCast] at *
  generalize val p / val v = qt at *
  have c2 : u2 < 4294967296 := by omega
  have c1 : u1 < 4294967296 := by omega
  have c0 : u0 < 4294967296 := by omega
  have e1 : v1 < 4294967296 := by omega
  have e0 : v0 < 4294967296 := by omega
  have e2 : 2147483648 ≤ v1 := by omega
  have o1 := or64n u2 u1 c2 c1
  have o0 := fun r hr => or64n r u0 hr c0
  have HGD := Lib.hid GD
  have HGS := Lib.hid GS
  have HGT := Lib.hid GT
  have HGL := Lib.hid GL
  have HO := Lib.hid o0
  clear GD GS GT GL o0 hu2 hu1 hu0 hv1 hv0 b2 b1 b0 d1 d0 hca hcb h h' hp hv hlt htop
  obtain ⟨T, hT⟩ : ∃ T, T = u2 * 4294967296 + u1 := ⟨_, rfl⟩
  rw [← hT] at o1
  have i1 : ((m : Int) - 1).toNat = m - 1 := by omega
  have i2 : ((m : Int) - 2).toNat = m - 2 := by omega
  have hTb : T < 18446744073709551616 := by omega
  obtain ⟨Q0, hQ⟩ : ∃ Q0, Q0 = T / v1 := ⟨_, rfl⟩
  obtain ⟨R0, hR⟩ : ∃ R0, R0 = T % v1 := ⟨_, rfl⟩
  have QR : Q0 * v1 + R0 = T := by rw [hQ, hR, Nat.mul_comm]; exact Nat.div_add_mod T v1
  have R1 : R0 < v1 := by rw [hR]; exact Nat.mod_lt _ (by omega)
  have QB : ∀ q r, q * v1 + r = T → q < 8589934592 := fun q r e => by
    refine Nat.lt_of_not_le fun hh => ?_
    have := Nat.mul_le_mul hh e2
    omega
  have Q2 := QB Q0 R0 QR
  have hq0 : (T : Int) / (v1 : Int) = (Q0 : Int) := by rw [hQ]; rfl
  have hr0 : (T : Int) % (v1 : Int) = (R0 : Int) := by rw [hR]; rfl
  have QS : qt ≤ Q0 := by
    refine Nat.le_of_not_lt fun hh => ?_
    have a1 : (Q0 + 1) * v1 ≤ qt * v1 := Nat.mul_le_mul_right _ hh
    have a2 := HGL.out
    rw [Nat.add_mul, Nat.one_mul] at a1
    omega
  have HQR := Lib.hid QR
  have HQB := Lib.hid QB
  have HQS := Lib.hid QS
  have hTT := Lib.hid hT
  clear hT hQ hR QR QB QS hTb
  go_enter Tryz.func117, Tryz.ntmps117
  have j1 : (0 : Int) ≤ (m : Int) := by omega
  have j2 : (m : Int) < (m : Int) + 1 := by omega
  have j3 : (0 : Int) ≤ (m : Int) - 1 := by omega
  have j4 : (m : Int) - 1 < (m : Int) + 1 := by omega
  have j5 : (m : Int) - 1 < (m : Int) := by omega
  have j6 : (0 : Int) ≤ (m : Int) - 2 := by omega
  have j7 : (m : Int) - 2 < (m : Int) + 1 := by omega
  have j8 : (m : Int) - 2 < (m : Int) := by omega
  have w1 : IntKind.i64.wrap ((m : Int) - 1) = (m : Int) - 1 := IntWalk.i64_in _ (by omega)
  have w2 : IntKind.i64.wrap ((m : Int) - 2) = (m : Int) - 2 := IntWalk.i64_in _ (by omega)
  have z1 : (v1 : Int) ≠ 0 := by omega
  have w3 : IntKind.u64.wrap (Q0 : Int) = (Q0 : Int) := by rw [wrap_u64']; omega
  go_wp2
  go_quiet (fail)
  go_wp2
  go_quiet (fail)
  go_wp2
  go_loopw [7, 8] (fun qv rv wr => ∃ q r n : Nat, qv = .int .u64 q ∧ rv = .int .u64 r ∧ r < 4294967296 ∧ q < 8589934592 ∧ wr = w.drewN n ∧ Hid (q * v1 + r = T ∧ qt ≤ q)) (fun qv _ _ => (intOf qv).toNat)
  case atStart => exact ⟨Q0, R0, _, rfl, congrArg (Value.int .u64) hr0, by omega, Q2, World.drewN_drewN .., ⟨HQR.out, HQS.out⟩⟩
  case round =>
    obtain ⟨q, r, n, rfl, rfl, hr, hq, rfl, HV⟩ := hrel
    by_cases g : 4294967296 ≤ q
    · have g1 : ((q : Int) / 4294967296 != 0) = true := by rw [bne_iff_ne]; omega
      have j9 : (0 : Int) ≤ (q : Int) - 1 := by omega
      have HD := HGD.out q r (by rw [← hTT.out]; exact HV.out.1) (.inl g)
      have HS := HGS.out (q - 1) (r + v1) (by
        rw [← hTT.out, ← HV.out.1]
        obtain ⟨q, rfl⟩ : ∃ j, q = j + 1 := ⟨q - 1, by omega⟩
        rw [Nat.add_sub_cancel, Nat.add_mul, Nat.one_mul]; omega)
      have HDH := Lib.hid HD
      have HSH := Lib.hid HS
      have hrr := Lib.hid hr
      have hqq := Lib.hid hq
      have jq : (q : Int) ≤ 8589934592 := by omega
      have jr : (r : Int) ≤ 4294967295 := by omega
      clear HD HS
      by_cases b1 : 4294967296 ≤ r + v1
      · have b2 : (((r : Int) + (v1 : Int)) / 4294967296 != 0) = true := by rw [bne_iff_ne]; omega
        have b3 := Lib.hid b1
        clear b1 g hr hq
        go_wp2
        go_quiet (fail)
        go_wp2
        go_ret
        obtain ⟨x1, x2⟩ := HSH.out (.inl b3.out)
        have x3 := HDH.out
        exact ⟨q - 1, ret_u64 (by omega), x1, by omega, by omega, _, rfl⟩
      · have b2 : (((r : Int) + (v1 : Int)) / 4294967296 != 0) = false := by rw [bne_eq_false_iff_eq]; omega
        have b3 := Lib.hid b1
        clear b1 g hr hq
        go_wp2
        go_quiet (fail)
        go_wp2
        go_roundw
        case rel =>
          have x3 := HDH.out
          have x4 := b3.out
          have x5 := hqq.out
          refine ⟨q - 1, r + v1, _, congrArg (Value.int .u64) (by omega), by go_num, by omega, by omega, rfl, ?_, by omega⟩
          rw [← HV.out.1]
          obtain ⟨q, rfl⟩ : ∃ j, q = j + 1 := ⟨q - 1, by omega⟩
          rw [Nat.add_sub_cancel, Nat.add_mul, Nat.one_mul]; omega
        case measure => first | (simp [intOf]; done) | (simp [intOf]; omega)
    · have g1 : ((q : Int) / 4294967296 != 0) = false := by rw [bne_eq_false_iff_eq]; omega
      have o := HO.out r hr
      obtain ⟨m0, m1, m2⟩ := mul_bound (q : Int) (v0 : Int) (by omega) (by omega) (by omega) (by omega)
      rw [Int.toNat_natCast, Int.toNat_natCast] at m2
      obtain ⟨S, hS⟩ : ∃ S, S = r * 4294967296 + u0 := ⟨_, rfl⟩
      rw [← hS] at o
      have hSH := Lib.hid hS
      obtain ⟨M, hM⟩ : ∃ M, M = q * v0 := ⟨_, rfl⟩
      have m3 : (q : Int) * (v0 : Int) = (M : Int) := by rw [hM]; rfl
      have m4 : (M : Int) ≤ 18446744065119617025 := by rw [m3] at m1; omega
      have hMH := Lib.hid hM
      clear m0 m1 m2 hS hM
      by_cases hSM : S < M
      · have s1 : (S : Int) < (M : Int) := by omega
        have q9 : 1 ≤ q := by
          rcases Nat.eq_zero_or_pos q with e | e
          · have := hMH.out; rw [e, Nat.zero_mul] at this; omega
          · exact e
        have j9 : (0 : Int) ≤ (q : Int) - 1 := by omega
        have HD := HGD.out q r (by rw [← hTT.out]; exact HV.out.1) (.inr (by rw [← hMH.out, ← hSH.out]; omega))
        have HS := HGS.out (q - 1) (r + v1) (by
          rw [← hTT.out, ← HV.out.1]
          obtain ⟨q, rfl⟩ : ∃ j, q = j + 1 := ⟨q - 1, by omega⟩
          rw [Nat.add_sub_cancel, Nat.add_mul, Nat.one_mul]; omega)
        have HDH := Lib.hid HD
        have HSH := Lib.hid HS
        have hrr := Lib.hid hr
        have hqq := Lib.hid hq
        have jq : (q : Int) ≤ 8589934592 := by omega
        have jr : (r : Int) ≤ 4294967295 := by omega
        clear HD HS
        by_cases b1 : 4294967296 ≤ r + v1
        · have b2 : (((r : Int) + (v1 : Int)) / 4294967296 != 0) = true := by rw [bne_iff_ne]; omega
          have b3 := Lib.hid b1
          clear b1 g hr hq
          go_wp2
          go_quiet (fail)
          go_wp2
          go_ret
          obtain ⟨x1, x2⟩ := HSH.out (.inl b3.out)
          have x3 := HDH.out
          exact ⟨q - 1, ret_u64 (by omega), x1, by omega, by omega, _, rfl⟩
        · have b2 : (((r : Int) + (v1 : Int)) / 4294967296 != 0) = false := by rw [bne_eq_false_iff_eq]; omega
          have b3 := Lib.hid b1
          clear b1 g hr hq
          go_wp2
          go_quiet (fail)
          go_wp2
          go_roundw
          case rel =>
            have x3 := HDH.out
            have x4 := b3.out
            have x5 := hqq.out
            refine ⟨q - 1, r + v1, _, congrArg (Value.int .u64) (by omega), by go_num, by omega, by omega, rfl, ?_, by omega⟩
            rw [← HV.out.1]
            obtain ⟨q, rfl⟩ : ∃ j, q = j + 1 := ⟨q - 1, by omega⟩
            rw [Nat.add_sub_cancel, Nat.add_mul, Nat.one_mul]; omega
          case measure => first | (simp [intOf]; done) | (simp [intOf]; omega)
      · have s1 : decide (S < M) = false := by simpa using hSM
        have HS := HGS.out q r (by rw [← hTT.out]; exact HV.out.1) (.inr ⟨by omega, by rw [← hMH.out, ← hSH.out]; omega⟩)
        have HSH := Lib.hid HS
        have jr : (r : Int) ≤ 4294967295 := by omega
        have jq : (q : Int) ≤ 4294967295 := by omega
        clear HS g hr hq hSM
        go_wp2
        go_quiet (fail)
        go_wp2
        go_ret
        obtain ⟨x1, x2⟩ := HSH.out
        exact ⟨q, rfl, x1, HV.out.2, x2, drawn2 _ _ _⟩
end Go.Proofs.YtolbafckppafkaaGreatDoor
