/-
  PACKAGE nat, FIFTH PART: Mul.
-/
import Derived.Test.YtbjclfmplndkcaaGreatDoorNd
set_option linter.unusedVariables false
set_option linter.unusedSimpArgs false
set_option linter.unnecessarySimpa false
namespace Go.Proofs.YtbjclfmplndkcaaGreatDoor
open Go.RowKit Pl

theorem mul_bound (x y : Int) (hx0 : 0 ≤ x) (hx1 : x < 4294967296) (hy0 : 0 ≤ y) (hy1 : y < 4294967296) : 0 ≤ x * y ∧ x * y ≤ 18446744065119617025 ∧ (x * y).toNat = x.toNat * y.toNat := by
  obtain ⟨a, rfl⟩ := Int.eq_ofNat_of_zero_le hx0
  obtain ⟨b, rfl⟩ := Int.eq_ofNat_of_zero_le hy0
  have h : a * b ≤ 4294967295 * 4294967295 := Nat.mul_le_mul (by omega) (by omega)
  rw [← Int.natCast_mul]
  refine ⟨by omega, by omega, ?_⟩
  rw [Int.toNat_natCast]; rfl

set_option maxHeartbeats 2000000 in
theorem Mul_pos (A A' : Option Addr) (c c' : Nat) (l m : List Int) (w : World) (h : Rd w A l) (h' : Rd w A' m) (hl : Norm l) (hm : Norm m) (hl0 : 0 < l.length) (hm0 : 0 < m.length) (h8 : l.length + m.length ≤ 8192) :
    Calls Tryz.prog 38 #[.slice A l.length c, .slice A' m.length c'] w fun e w' =>
      ∃ B d, e = .returned (.tuple #[.slice B (words (val l * val m)).length d, .int .i64 0]) ∧ Ow w' w.heap.size B d (words (val l * val m)) ∧ Below w.heap.size w w' := by
  have C1 := Lib.hid (checked_ok A A' c c' l m w h h' hl (by omega) hm (by omega))
  have hmk := make_words ((l.length : Int) + m.length) (l.length + m.length) (by omega) (by omega)
  have hln : ((l.length : Int) == 0) = false := beq_eq_false_iff_ne.2 (by omega)
  have hmn : ((m.length : Int) == 0) = false := beq_eq_false_iff_ne.2 (by omega)
  go_enter Tryz.func38, Tryz.ntmps38
  go_wp2_with fail
  refine C1.out.mono ?_
  rintro e w' ⟨rfl, rfl⟩
  go_wp2
  have hB0 : Below w.heap.size w (w.alloc (.cells (cellsOf (List.replicate (l.length + m.length) 0)) 40)) := (Below.refl _ _).alloc (Nat.le_refl _) _
  have hK0 : Bw (w.alloc (.cells (cellsOf (List.replicate (l.length + m.length) 0)) 40)) w.heap.size (l.length + m.length) (List.replicate (l.length + m.length) 0) := by
    have e := Bw.of_blk (Blk.new w 40 (cellsOf (List.replicate (l.length + m.length) 0))) (InR.replicate _ (by omega) (by omega)) (by simp; omega)
    rwa [List.length_replicate] at e
  clear hmk
  go_loopw [41] (fun iv wr => ∃ (i : Nat) (out : List Int), i ≤ l.length ∧ iv = .int .i64 i ∧ out.length ≤ l.length + m.length ∧ l.length + m.length ≤ out.length ∧ Bw wr w.heap.size (l.length + m.length) out ∧ Below w.heap.size w wr ∧
      Hid (val (out.take (i + m.length)) = val (l.take i) * val m ∧ ∀ j, i + m.length ≤ j → out.getD j 0 = 0)) (fun iv _ => l.length - (intOf iv).toNat)
  case atStart =>
    refine ⟨0, List.replicate (l.length + m.length) 0, Nat.zero_le _, rfl, by simp, by simp, hK0, hB0, ?_⟩
    show _ = _ ∧ _
    refine ⟨?_, fun j _ => ?_⟩
    · rw [List.take_replicate, val_replicate]; simp [val]
    · simp only [List.getD_eq_getElem?_getD, List.getElem?_replicate]; split <;> rfl
  case round =>
    obtain ⟨i, out, hil, rfl, ho1, ho2, hK, hB, HV⟩ := hrel
    clear hK0 hB0
    obtain ⟨wo, rfl⟩ : ∃ wo : World, wo = wr := ⟨_, rfl⟩
    by_cases hlt : i < l.length
    · obtain ⟨ad, rfl, hcl⟩ := (h.below hB).at_ hlt
      have hx := h.inr.getD i
      have hx0 := hx.1
      have hx1 := hx.2
      have hxs := take_succ_val l i
      generalize l.getD i 0 = x at *
      have HX := Lib.hid hxs
      have HK := Lib.hid hK
      have HB := Lib.hid hB
      clear hx hxs hK hB
      go_wp2
      go_loopw [10, 48] (fun cv kv wr => ∃ (k s : Nat) (o : List Int), k ≤ m.length ∧ kv = .int .i64 k ∧ cv = .int .u64 s ∧ s < 4294967296 ∧ o.length ≤ l.length + m.length ∧ l.length + m.length ≤ o.length ∧ Bw wr w.heap.size (l.length + m.length) o ∧ Below w.heap.size w wr ∧
          Hid (val (o.take (i + k)) + 4294967296 ^ (i + k) * s = val (out.take (i + k)) + 4294967296 ^ i * (x.toNat * val (m.take k)) ∧ ∀ j, i + k ≤ j → o.getD j 0 = out.getD j 0)) (fun _ kv _ => m.length - (intOf kv).toNat)
      case atStart => exact ⟨0, 0, out, Nat.zero_le _, rfl, rfl, by omega, ho1, ho2, HK.out, HB.out, by show _ = _ ∧ _; simp [val]⟩
      case round =>
        obtain ⟨k, s, o, hkl, rfl, rfl, hs, hoo1, hoo2, hK, hB, HW⟩ := hrel
        by_cases hkm : k < m.length
        · obtain ⟨ad', rfl, hcm⟩ := (h'.below hB).at_ hkm
          have hy := h'.inr.getD k
          have hz := hK.inr.getD (i + k)
          have hc := hK.cell (j := i + k) (by omega)
          have hf := hK.frozen (i + k)
          obtain ⟨p0, p1, p2⟩ := mul_bound x (m.getD k 0) hx0 hx1 hy.1 hy.2
          have st := mul_step m o out i k x.toNat s (s + x.toNat * (m.getD k 0).toNat + (out.getD (i + k) 0).toNat) (by omega) HW.out.1 rfl
          rw [← p2, ← HW.out.2 (i + k) (Nat.le_refl _)] at st
          generalize o.getD (i + k) 0 = z at *
          generalize m.getD k 0 = y at *
          have hz0 := hz.1
          have hz1 := hz.2
          have hy0 := hy.1
          have hy1 := hy.2
          generalize hp : x * y = p at *
          have ST := Lib.hid st
          have HK2 := Lib.hid hK
          have HB2 := Lib.hid hB
          have HH := Lib.hid h
          have HH' := Lib.hid h'
          clear st hK hB p2 hy hz h h' hl hm C1 HB HK HX HV
          go_wp2
          go_roundw
          case rel =>
            refine ⟨k + 1, (s + p.toNat + z.toNat) / 4294967296, o.set (i + k) (((s + p.toNat + z.toNat) % 4294967296 : Nat) : Int), by omega, by go_num, ?_, by omega, by simp; omega, by simp; omega, ?_, HB2.out.setCell (Nat.le_refl _) _, ST.out, fun j hj => ?_⟩
            · congr 1; omega
            · have e : ((s : Int) + (p + z)) % 4294967296 = (((s + p.toNat + z.toNat) % 4294967296 : Nat) : Int) := by omega
              rw [e]
              exact HK2.out.set (i + k) (by omega) (by omega)
            · rw [getD_set_ne _ _ _ _ (by omega)]; exact HW.out.2 j (by omega)
          case measure => first | (simp [intOf]; done) | (simp [intOf]; omega)
        · have hkk : k = m.length := by omega
          subst hkk
          have hc := hK.cell (j := i + m.length) (by omega)
          have hf := hK.frozen (i + m.length)
          have e1 := take_set_val o (i + m.length) (s : Int) (by omega)
          have e2 := HW.out.1
          rw [List.take_length, HV.out.1] at e2
          rw [Int.toNat_natCast, e2] at e1
          have e3 : val (l.take i) * val m + 4294967296 ^ i * (x.toNat * val m) = val (l.take (i + 1)) * val m := by
            rw [HX.out, Nat.add_mul, Nat.mul_assoc]
          rw [e3] at e1
          have E1 := Lib.hid e1
          have HK2 := Lib.hid hK
          have HB2 := Lib.hid hB
          generalize o.getD (i + m.length) 0 = z at *
          clear e1 e2 e3 hK hB HK HB HX
          go_wp2
          go_roundw
          case rel =>
            refine ⟨i + 1, o.set (i + m.length) (s : Int), by omega, by go_num, by simp; omega, by simp; omega, HK2.out.set _ (by omega) (by omega), HB2.out.setCell (Nat.le_refl _) _, ?_⟩
            show _ = _ ∧ _
            refine ⟨?_, fun j hj => ?_⟩
            · rw [show i + 1 + m.length = i + m.length + 1 by omega]; exact E1.out
            · rw [getD_set_ne _ _ _ _ (by omega), HW.out.2 j (by omega)]; exact HV.out.2 j (by omega)
          case measure => first | (simp [intOf]; done) | (simp [intOf]; omega)
    · have hi : i = l.length := by omega
      subst hi
      have hvo : val out = val l * val m := by
        have e := HV.out.1
        rwa [List.take_length, List.take_of_length_le (by omega)] at e
      have T := told_ok (some ⟨w.heap.size, 0, none⟩) (l.length + m.length) out wo hK.rd hK.le (by have := cut_le out; omega)
      have hcw := cut_words hK.inr
      have hO := hK.take (cut out).length
      rw [← cut_take, hcw, hvo] at hO
      rw [hcw, hvo, show out.length = l.length + m.length by omega] at T
      have T' := Lib.hid T
      have O' := Lib.hid hO
      have B' := Lib.hid hB
      clear T hO hcw hvo HV hK hB h h' hl hm C1
      go_wp2_with fail
      refine T'.out.mono ?_
      rintro e w1 ⟨rfl, rfl⟩
      go_wp2
      go_ret2
      exact ⟨_, _, rfl, .inr ⟨_, rfl, Nat.le_refl _, O'.out⟩, B'.out⟩

set_option maxHeartbeats 400000 in
theorem Mul_any (A A' : Option Addr) (c c' : Nat) (l m : List Int) (w : World) (h : Rd w A l) (h' : Rd w A' m) (hl : Norm l) (hm : Norm m) (h8 : l.length + m.length ≤ 8192) :
    Calls Tryz.prog 38 #[.slice A l.length c, .slice A' m.length c'] w fun e w' =>
      ∃ B d, e = .returned (.tuple #[.slice B (words (val l * val m)).length d, .int .i64 0]) ∧ Ow w' w.heap.size B d (words (val l * val m)) ∧ Below w.heap.size w w' := by
  by_cases hl0 : 0 < l.length
  · by_cases hm0 : 0 < m.length
    · exact Mul_pos A A' c c' l m w h h' hl hm hl0 hm0 h8
    · have he : m = [] := List.eq_nil_of_length_eq_zero (by omega)
      subst he
      have C1 := Lib.hid (checked_ok A A' c c' l [] w h h' hl (by omega) hm (by simp))
      have z : val l * val [] = 0 := by simp [val]
      rw [z, words_zero]
      have hln : ((l.length : Int) == 0) = false := beq_eq_false_iff_ne.2 (by omega)
      clear z h h' hl hm
      go_enter Tryz.func38, Tryz.ntmps38
      go_wp2_with fail
      refine C1.out.mono ?_
      rintro e w' ⟨rfl, rfl⟩
      go_wp2
      go_ret2
      exact ⟨none, 0, rfl, Ow.nil _ _, Below.refl _ _⟩
  · have he : l = [] := List.eq_nil_of_length_eq_zero (by omega)
    subst he
    have C1 := Lib.hid (checked_ok A A' c c' [] m w h h' hl (by simp) hm (by omega))
    have z : val [] * val m = 0 := by simp [val]
    rw [z, words_zero]
    clear z h h' hl hm
    go_enter Tryz.func38, Tryz.ntmps38
    go_wp2_with fail
    refine C1.out.mono ?_
    rintro e w' ⟨rfl, rfl⟩
    go_wp2
    go_ret2
    exact ⟨none, 0, rfl, Ow.nil _ _, Below.refl _ _⟩
end Go.Proofs.YtbjclfmplndkcaaGreatDoor
