/-
  PACKAGE nat, EIGHTH PART: off, back (onto a part of a block).
-/
import Derived.Test.YtbjclfmplndkcaaGreatDoorNg
set_option linter.unusedVariables false
set_option linter.unusedSimpArgs false
set_option linter.unnecessarySimpa false
namespace Go.Proofs.YtbjclfmplndkcaaGreatDoor
open Go.RowKit Pl

/-- u with o laid over it from place i on -/
def J (u : List Int) (i : Nat) (o : List Int) : List Int := u.take i ++ o ++ u.drop (i + o.length)
theorem J_length (u : List Int) (i : Nat) (o : List Int) (h : i + o.length ≤ u.length) : (J u i o).length = u.length := by
  simp [J]; omega
theorem J_self (u : List Int) (i n : Nat) (h : i + n ≤ u.length) : J u i ((u.drop i).take n) = u := by
  unfold J
  rw [List.length_take, List.length_drop, Nat.min_eq_left (by omega), List.append_assoc]
  have : (u.drop i).take n ++ u.drop (i + n) = u.drop i := by
    rw [← List.drop_drop, List.take_append_drop]
  rw [this, List.take_append_drop]
theorem J_getD (u : List Int) (i : Nat) (o : List Int) (k : Nat) (hi : i ≤ u.length) (hk : k < o.length) : (J u i o).getD (i + k) 0 = o.getD k 0 := by
  unfold J
  have hl : (u.take i).length = i := by rw [List.length_take]; omega
  rw [List.getD_eq_getElem?_getD, List.getD_eq_getElem?_getD, List.append_assoc, List.getElem?_append_right (by omega), hl, Nat.add_sub_cancel_left, List.getElem?_append_left hk]
theorem J_set (u : List Int) (i : Nat) (o : List Int) (k : Nat) (x : Int) (hi : i ≤ u.length) (hk : k < o.length) : (J u i o).set (i + k) x = J u i (o.set k x) := by
  unfold J
  have hl : (u.take i).length = i := by rw [List.length_take]; omega
  rw [List.append_assoc, List.append_assoc, List.set_append, if_neg (by omega), hl, Nat.add_sub_cancel_left, List.set_append, if_pos hk, List.length_set]
theorem J_inr (u : List Int) (i : Nat) (o : List Int) (h : InR (J u i o)) : InR o := by
  unfold J at h; exact h.left.right

theorem borrow_three (z lo : Int) (b : Nat) (hx0 : 0 ≤ z) (hx1 : z < 4294967296) (hy0 : 0 ≤ lo) (hy1 : lo < 4294967296) (hb : b ≤ 1) :
    ∃ d b' : Nat, IntKind.u64.wrap (IntKind.u64.wrap (z - lo) - b) % 4294967296 = d ∧ IntKind.u64.wrap (IntKind.u64.wrap (z - lo) - b) / 9223372036854775808 = b' ∧
      d < 4294967296 ∧ b' ≤ 1 ∧ d + lo.toNat + b = z.toNat + 4294967296 * b' := by
  rw [wrap_u64', wrap_u64']
  by_cases h : 0 ≤ z - lo - b
  · exact ⟨(z - lo - b).toNat, 0, by omega, by omega, by omega, by omega, by omega⟩
  · exact ⟨(z - lo - b + 4294967296).toNat, 1, by omega, by omega, by omega, by omega, by omega⟩

set_option maxHeartbeats 2000000 in
theorem off_any (g c i n cu c' x : Nat) (A' : Option Addr) (u v : List Int) (w : World) (hk : Bw w g c u) (hi : i + n ≤ u.length) (h' : ∀ W, w.grownBy W (some g) → Rd W A' v) (hvn : v.length < n) (hx : x < 4294967296) (hn8 : n ≤ 1000000) :
    Calls Tryz.prog 57 #[.slice (some ⟨g, i, none⟩) n cu, .slice A' v.length c', .int .u64 x] w fun e w' =>
      ∃ (p : List Int) (b : Nat), e = .returned (.bool ((b : Int) != 0)) ∧ b ≤ 1 ∧ p.length = n ∧ Bw w' g c (J u i p) ∧ w.grownBy w' (some g) ∧
        val p + x * val v = val ((u.drop i).take n) + 4294967296 ^ n * b := by
  have hu0 : ((u.drop i).take n).length = n := by rw [List.length_take, List.length_drop]; omega
  go_enter Tryz.func57, Tryz.ntmps57
  go_wp2
  go_loopw [7, 8, 13] (fun cv bv kv wr => ∃ (k s b : Nat) (o : List Int), k ≤ n ∧ kv = .int .i64 k ∧ cv = .int .u64 s ∧ bv = .int .u64 b ∧ s < 4294967296 ∧ b ≤ 1 ∧ o.length ≤ n ∧ n ≤ o.length ∧ Bw wr g c (J u i o) ∧ w.grownBy wr (some g) ∧
      Hid (val (o.take k) + x * val (v.take k) = val (((u.drop i).take n).take k) + 4294967296 ^ k * (s + b) ∧ (v.length < k → s = 0) ∧ ∀ j, k ≤ j → o.getD j 0 = ((u.drop i).take n).getD j 0)) (fun _ _ kv _ => n - (intOf kv).toNat)
  case atStart =>
    refine ⟨0, 0, 0, (u.drop i).take n, Nat.zero_le _, rfl, rfl, rfl, by omega, by omega, by omega, by omega, by rw [J_self u i n hi]; exact hk, only_refl _ _, ?_⟩
    show _ = _ ∧ _
    simp [val]
  case round =>
    obtain ⟨k, s, b, o, hkn, rfl, rfl, rfl, hs, hb, ho1, ho2, hK, hG, HV⟩ := hrel
    by_cases hlt : k < n
    · have hc := hK.cell (j := i + k) (by rw [J_length u i o (by omega)]; omega)
      have hf := hK.frozen (i + k)
      rw [J_getD u i o k (by omega) (by omega)] at hc
      have hz := (J_inr u i o hK.inr).getD k
      have hz0 := hz.1
      have hz1 := hz.2
      have hR := h' wr hG
      have hy := hR.inr.getD k
      have hy0 := hy.1
      have hy1 := hy.2
      have hzl := HV.out.2.2 k (Nat.le_refl _)
      have st := fun (d b' : Nat) (hd : d + (s + x * (v.getD k 0).toNat) % 4294967296 + b = (o.getD k 0).toNat + 4294967296 * b') => off_step ((u.drop i).take n) v o k x s b ((s + x * (v.getD k 0).toNat) % 4294967296) d b' (by omega) HV.out.1 rfl (by rw [← hzl]; exact hd)
      have hm0 : ¬ k < v.length → v.getD k 0 = 0 := fun hn => by simp [List.getD_eq_getElem?_getD, Nat.not_lt.1 hn]
      have hcm : k < v.length → ∃ ad', A' = some ad' ∧ wr.cell? (ad'.add k) = some (.int .u32 (v.getD k 0)) := fun hn => hR.at_ hn
      generalize o.getD k 0 = z at *
      generalize v.getD k 0 = y at *
      have ST := Lib.hid st
      have HK := Lib.hid hK
      have HG := Lib.hid hG
      have H' := Lib.hid h'
      clear st hK hG h' hR hy hz hzl hk
      by_cases hkm : k < v.length
      · obtain ⟨ad', rfl, hcm⟩ := hcm hkm
        clear hm0
        obtain ⟨p0, p1, p2⟩ := mul_bound (x : Int) y (by omega) (by omega) hy0 hy1
        rw [Int.toNat_natCast] at p2
        generalize hp : (x : Int) * y = p at *
        have P2 := Lib.hid p2
        obtain ⟨lo, hlo⟩ : ∃ lo : Int, lo = ((s : Int) + p) % 4294967296 := ⟨_, rfl⟩
        obtain ⟨hi', hhi⟩ : ∃ hi' : Nat, (hi' : Int) = ((s : Int) + p) / 4294967296 := ⟨(((s : Int) + p) / 4294967296).toNat, by omega⟩
        obtain ⟨d, b', e1, e2, hd, hb', e3⟩ := borrow_three z lo b hz0 hz1 (by omega) (by omega) hb
        have hlo' := hlo.symm
        have hhi' := hhi.symm
        have hhib : hi' < 4294967296 := by omega
        have L1 : lo.toNat = (s + p.toNat) % 4294967296 := by omega
        have L2 : hi' = (s + p.toNat) / 4294967296 := by omega
        have E3 := Lib.hid e3
        have HL1 := Lib.hid L1
        have HL2 := Lib.hid L2
        have l0 : 0 ≤ lo := by omega
        have l1 : lo < 4294967296 := by omega
        clear e3 p2 hlo hhi L1 L2
        go_wp2
        go_roundw
        case rel =>
          refine ⟨k + 1, hi', b', o.set k (d : Int), by omega, by go_num, rfl, rfl, hhib, hb', by simp; omega, by simp; omega, ?_, only_setCell HG.out _ _, ?_⟩
          · rw [← J_set u i o k _ (by omega) (by omega)]
            exact HK.out.set _ (by omega) (by omega)
          · show _ = _ ∧ _
            refine ⟨?_, fun hh => by omega, fun j hj => ?_⟩
            · have e := ST.out d b' (by rw [← P2.out, ← HL1.out]; exact E3.out)
              rw [← P2.out, ← HL2.out] at e
              exact e
            · rw [getD_set_ne _ _ _ _ (by omega)]; exact HV.out.2.2 j (by omega)
        case measure => first | (simp [intOf]; done) | (simp [intOf]; omega)
      · obtain rfl := hm0 hkm
        clear hcm
        have P2 : Hid (0 = x * (0 : Int).toNat) := by show 0 = _; simp
        obtain ⟨hi', hhi⟩ : ∃ hi' : Nat, (hi' : Int) = (s : Int) / 4294967296 := ⟨((s : Int) / 4294967296).toNat, by omega⟩
        have hlo' : (s : Int) % 4294967296 = (s : Int) := by omega
        obtain ⟨d, b', e1, e2, hd, hb', e3⟩ := borrow_three z (s : Int) b hz0 hz1 (by omega) (by omega) hb
        have hhi' := hhi.symm
        have hhib : hi' < 4294967296 := by omega
        have hh0 : hi' = 0 := by omega
        have L1 : (s : Int).toNat = (s + 0) % 4294967296 := by omega
        have L2 : hi' = (s + 0) / 4294967296 := by omega
        have E3 := Lib.hid e3
        have HL1 := Lib.hid L1
        have HL2 := Lib.hid L2
        have HH0 := Lib.hid hh0
        clear e3 hhi L1 L2 hh0
        go_wp2
        go_roundw
        case rel =>
          refine ⟨k + 1, hi', b', o.set k (d : Int), by omega, by go_num, rfl, rfl, hhib, hb', by simp; omega, by simp; omega, ?_, only_setCell HG.out _ _, ?_⟩
          · rw [← J_set u i o k _ (by omega) (by omega)]
            exact HK.out.set _ (by omega) (by omega)
          · show _ = _ ∧ _
            refine ⟨?_, fun hh => HH0.out, fun j hj => ?_⟩
            · have e := ST.out d b' (by rw [← P2.out, ← HL1.out]; exact E3.out)
              rw [← P2.out, ← HL2.out] at e
              exact e
            · rw [getD_set_ne _ _ _ _ (by omega)]; exact HV.out.2.2 j (by omega)
        case measure => first | (simp [intOf]; done) | (simp [intOf]; omega)
    · have hkk : k = n := by omega
      have hvo : val o + x * val v = val ((u.drop i).take n) + 4294967296 ^ n * b := by
        have e := HV.out.1
        rw [hkk, List.take_of_length_le (by omega), List.take_of_length_le (by omega), List.take_of_length_le (by omega), HV.out.2.1 (by omega), Nat.zero_add] at e
        exact e
      have HO := Lib.hid hvo
      have HK := Lib.hid hK
      have HG := Lib.hid hG
      have H' := Lib.hid h'
      clear hvo hkk hK hG h' hk
      go_wp2
      go_ret
      exact ⟨o, b, rfl, hb, by omega, HK.out, HG.out, HO.out⟩

set_option maxHeartbeats 2000000 in
theorem back_any (g c i n cu c' : Nat) (A' : Option Addr) (u v : List Int) (w : World) (hk : Bw w g c u) (hi : i + n ≤ u.length) (h' : ∀ W, w.grownBy W (some g) → Rd W A' v) (hvn : v.length < n) (hn8 : n ≤ 1000000) :
    Calls Tryz.prog 58 #[.slice (some ⟨g, i, none⟩) n cu, .slice A' v.length c'] w fun e w' =>
      ∃ (p : List Int) (s : Nat), e = .returned (.tuple #[]) ∧ p.length = n ∧ Bw w' g c (J u i p) ∧ w.grownBy w' (some g) ∧
        val p + 4294967296 ^ n * s = val ((u.drop i).take n) + val v := by
  have hu0 : ((u.drop i).take n).length = n := by rw [List.length_take, List.length_drop]; omega
  go_enter Tryz.func58, Tryz.ntmps58
  go_wp2
  go_loopw [4, 8] (fun cv kv wr => ∃ (k s : Nat) (o : List Int), k ≤ n ∧ kv = .int .i64 k ∧ cv = .int .u64 s ∧ s ≤ 1 ∧ o.length ≤ n ∧ n ≤ o.length ∧ Bw wr g c (J u i o) ∧ w.grownBy wr (some g) ∧
      Hid (val (o.take k) + 4294967296 ^ k * s = val (((u.drop i).take n).take k) + val (v.take k) ∧ ∀ j, k ≤ j → o.getD j 0 = ((u.drop i).take n).getD j 0)) (fun _ kv _ => n - (intOf kv).toNat)
  case atStart =>
    refine ⟨0, 0, (u.drop i).take n, Nat.zero_le _, rfl, rfl, by omega, by omega, by omega, by rw [J_self u i n hi]; exact hk, only_refl _ _, ?_⟩
    show _ = _ ∧ _
    simp [val]
  case round =>
    obtain ⟨k, s, o, hkn, rfl, rfl, hs, ho1, ho2, hK, hG, HV⟩ := hrel
    by_cases hlt : k < n
    · have hc := hK.cell (j := i + k) (by rw [J_length u i o (by omega)]; omega)
      have hf := hK.frozen (i + k)
      rw [J_getD u i o k (by omega) (by omega)] at hc
      have hz := (J_inr u i o hK.inr).getD k
      have hz0 := hz.1
      have hz1 := hz.2
      have hR := h' wr hG
      have hy := hR.inr.getD k
      have hy0 := hy.1
      have hy1 := hy.2
      have hzl := HV.out.2 k (Nat.le_refl _)
      have st := add_step ((u.drop i).take n) v o k s (s + (((u.drop i).take n).getD k 0).toNat + (v.getD k 0).toNat) (by omega) HV.out.1 rfl
      rw [← hzl] at st
      have hm0 : ¬ k < v.length → v.getD k 0 = 0 := fun hn => by simp [List.getD_eq_getElem?_getD, Nat.not_lt.1 hn]
      have hcm : k < v.length → ∃ ad', A' = some ad' ∧ wr.cell? (ad'.add k) = some (.int .u32 (v.getD k 0)) := fun hn => hR.at_ hn
      generalize o.getD k 0 = z at *
      generalize v.getD k 0 = y at *
      have ST := Lib.hid st
      have HK := Lib.hid hK
      have HG := Lib.hid hG
      have H' := Lib.hid h'
      clear st hK hG h' hR hy hz hzl hk
      by_cases hkm : k < v.length
      · obtain ⟨ad', rfl, hcm⟩ := hcm hkm
        clear hm0
        go_wp2
        go_roundw
        case rel =>
          refine ⟨k + 1, (s + z.toNat + y.toNat) / 4294967296, o.set k (((s + z.toNat + y.toNat) % 4294967296 : Nat) : Int), by omega, by go_num, ?_, by omega, by simp; omega, by simp; omega, ?_, only_setCell HG.out _ _, ?_⟩
          · congr 1; omega
          · rw [← J_set u i o k _ (by omega) (by omega)]
            have e : ((s : Int) + z + y) % 4294967296 = (((s + z.toNat + y.toNat) % 4294967296 : Nat) : Int) := by omega
            rw [← e]
            exact HK.out.set _ (by omega) (by omega)
          · refine ⟨ST.out, fun j hj => ?_⟩
            rw [getD_set_ne _ _ _ _ (by omega)]; exact HV.out.2 j (by omega)
        case measure => first | (simp [intOf]; done) | (simp [intOf]; omega)
      · obtain rfl := hm0 hkm
        clear hcm
        go_wp2
        go_roundw
        case rel =>
          refine ⟨k + 1, (s + z.toNat + (0 : Int).toNat) / 4294967296, o.set k (((s + z.toNat + (0 : Int).toNat) % 4294967296 : Nat) : Int), by omega, by go_num, ?_, by omega, by simp; omega, by simp; omega, ?_, only_setCell HG.out _ _, ?_⟩
          · congr 1; omega
          · rw [← J_set u i o k _ (by omega) (by omega)]
            have e : ((s : Int) + z) % 4294967296 = (((s + z.toNat + (0 : Int).toNat) % 4294967296 : Nat) : Int) := by omega
            rw [← e]
            exact HK.out.set _ (by omega) (by omega)
          · refine ⟨ST.out, fun j hj => ?_⟩
            rw [getD_set_ne _ _ _ _ (by omega)]; exact HV.out.2 j (by omega)
        case measure => first | (simp [intOf]; done) | (simp [intOf]; omega)
    · have hkk : k = n := by omega
      have hvo : val o + 4294967296 ^ n * s = val ((u.drop i).take n) + val v := by
        have e := HV.out.1
        rw [hkk, List.take_of_length_le (l := o) (by omega), List.take_of_length_le (l := (u.drop i).take n) (by omega), List.take_of_length_le (l := v) (by omega)] at e
        exact e
      have HO := Lib.hid hvo
      have HK := Lib.hid hK
      have HG := Lib.hid hG
      have H' := Lib.hid h'
      clear hvo hkk hK hG h' hk
      go_wp2
      go_end0
      exact ⟨o, s, rfl, by omega, HK.out, HG.out, HO.out⟩
end Go.Proofs.YtbjclfmplndkcaaGreatDoor
