/-
  Stable texts joined: Nh, Ni, Nj.
-/
import Derived.Test.YtolbafckppafkaaGreatDoorYD
import Derived.Deep.RegionWith
/-
  PACKAGE nat, EIGHTH PART: off, back (onto a part of a block).
-/
set_option linter.unusedVariables false
set_option linter.unusedSimpArgs false
set_option linter.unnecessarySimpa false
namespace Go.Proofs.YtolbafckppafkaaGreatDoor
open Go.RowKit Pl

/-- u with o laid over it from place i on -/
def J (u : List Int) (i : Nat) (o : List Int) : List Int := u.take i ++ o ++ u.drop (i + o.length)
theorem J_length (u : List Int) (i : Nat) (o : List Int) (h : i + o.length ≤ u.length) : (J u i o).length = u.length := by
  simp [J]; omega
theorem J_self (u : List Int) (i n : Nat) (h : i + n ≤ u.length) : J u i ((u.drop i).take n) = u := by
  unfold J
  rw [List.length_take, List.length_drop, Nat.min_eq_left (by omega), List.append_assoc]
  have : (u.drop i).take n ++ u.drop (i + n) = u.drop i := by
    rw [← List.drop_drop, List.take_append_drop]
  rw [this, List.take_append_drop]
theorem J_getD (u : List Int) (i : Nat) (o : List Int) (k : Nat) (hi : i ≤ u.length) (hk : k < o.length) : (J u i o).getD (i + k) 0 = o.getD k 0 := by
  unfold J
  have hl : (u.take i).length = i := by rw [List.length_take]; omega
  rw [List.getD_eq_getElem?_getD, List.getD_eq_getElem?_getD, List.append_assoc, List.getElem?_append_right (by omega), hl, Nat.add_sub_cancel_left, List.getElem?_append_left hk]
theorem J_set (u : List Int) (i : Nat) (o : List Int) (k : Nat) (x : Int) (hi : i ≤ u.length) (hk : k < o.length) : (J u i o).set (i + k) x = J u i (o.set k x) := by
  unfold J
  have hl : (u.take i).length = i := by rw [List.length_take]; omega
  rw [List.append_assoc, List.append_assoc, List.set_append, if_neg (by omega), hl, Nat.add_sub_cancel_left, List.set_append, if_pos hk, List.length_set]
theorem J_inr (u : List Int) (i : Nat) (o : List Int) (h : InR (J u i o)) : InR o := by
  unfold J at h; exact h.left.right

theorem borrow_three (z lo : Int) (b : Nat) (hx0 : 0 ≤ z) (hx1 : z < 4294967296) (hy0 : 0 ≤ lo) (hy1 : lo < 4294967296) (hb : b ≤ 1) :
    ∃ d b' : Nat, IntKind.u64.wrap (IntKind.u64.wrap (z - lo) - b) % 4294967296 = d ∧ IntKind.u64.wrap (IntKind.u64.wrap (z - lo) - b) / 9223372036854775808 = b' ∧
      d < 4294967296 ∧ b' ≤ 1 ∧ d + lo.toNat + b = z.toNat + 4294967296 * b' := by
  rw [wrap_u64', wrap_u64']
  by_cases h : 0 ≤ z - lo - b
  · exact ⟨(z - lo - b).toNat, 0, by omega, by omega, by omega, by omega, by omega⟩
  · exact ⟨(z - lo - b + 4294967296).toNat, 1, by omega, by omega, by omega, by omega, by omega⟩

set_option maxHeartbeats 2000000 in
theorem off_any (g c i n cu c' x : Nat) (A' : Option Addr) (u v : List Int) (w : World) (hk : Bw w g c u) (hi : i + n ≤ u.length) (h' : ∀ W, w.grownBy W (some g) → Rd W A' v) (hvn : v.length < n) (hx : x < 4294967296) (hn8 : n ≤ 1000000) :
    Calls Tryz.prog 118 #[.slice (some ⟨g, i, none⟩) n cu, .slice A' v.length c', .int .u64 x] w fun e w' =>
      ∃ (p : List Int) (b : Nat), e = .returned (.bool ((b : Int) != 0)) ∧ b ≤ 1 ∧ p.length = n ∧ Bw w' g c (J u i p) ∧ w.grownBy w' (some g) ∧
        val p + x * val v = val ((u.drop i).take n) + 4294967296 ^ n * b := by
  have hu0 : ((u.drop i).take n).length = n := by rw [List.length_take, List.length_drop]; omega
  go_enter Tryz.func118, Tryz.ntmps118
  go_wp2
  go_loopw [7, 8, 13] (fun cv bv kv wr => ∃ (k s b : Nat) (o : List Int), k ≤ n ∧ kv = .int .i64 k ∧ cv = .int .u64 s ∧ bv = .int .u64 b ∧ s < 4294967296 ∧ b ≤ 1 ∧ o.length ≤ n ∧ n ≤ o.length ∧ Bw wr g c (J u i o) ∧ w.grownBy wr (some g) ∧
      Hid (val (o.take k) + x * val (v.take k) = val (((u.drop i).take n).take k) + 4294967296 ^ k * (s + b) ∧ (v.length < k → s = 0) ∧ ∀ j, k ≤ j → o.getD j 0 = ((u.drop i).take n).getD j 0)) (fun _ _ kv _ => n - (intOf kv).toNat)
  case atStart =>
    refine ⟨0, 0, 0, (u.drop i).take n, Nat.zero_le _, rfl, rfl, rfl, by omega, by omega, by omega, by omega, by rw [J_self u i n hi]; exact hk, only_refl _ _, ?_⟩
    show _ = _ ∧ _
    simp [val]
  case round =>
    obtain ⟨k, s, b, o, hkn, rfl, rfl, rfl, hs, hb, ho1, ho2, hK, hG, HV⟩ := hrel
    by_cases hlt : k < n
    · have hc := hK.cell (j := i + k) (by rw [J_length u i o (by omega)]; omega)
      have hf := hK.frozen (i + k)
      rw [J_getD u i o k (by omega) (by omega)] at hc
      have hz := (J_inr u i o hK.inr).getD k
      have hz0 := hz.1
      have hz1 := hz.2
      have hR := h' wr hG
      have hy := hR.inr.getD k
      have hy0 := hy.1
      have hy1 := hy.2
      have hzl := HV.out.2.2 k (Nat.le_refl _)
      have st := fun (d b' : Nat) (hd : d + (s + x * (v.getD k 0).toNat) % 4294967296 + b = (o.getD k 0).toNat + 4294967296 * b') => off_step ((u.drop i).take n) v o k x s b ((s + x * (v.getD k 0).toNat) % 4294967296) d b' (by omega) HV.out.1 rfl (by rw [← hzl]; exact hd)
      have hm0 : ¬ k < v.length → v.getD k 0 = 0 := fun hn => by simp [List.getD_eq_getElem?_getD, Nat.not_lt.1 hn]
      have hcm : k < v.length → ∃ ad', A' = some ad' ∧ wr.cell? (ad'.add k) = some (.int .u32 (v.getD k 0)) := fun hn => hR.at_ hn
      generalize o.getD k 0 = z at *
      generalize v.getD k 0 = y at *
      have ST := Lib.hid st
      have HK := Lib.hid hK
      have HG := Lib.hid hG
      have H' := Lib.hid h'
      clear st hK hG h' hR hy hz hzl hk
      by_cases hkm : k < v.length
      · obtain ⟨ad', rfl, hcm⟩ := hcm hkm
        clear hm0
        obtain ⟨p0, p1, p2⟩ := mul_bound (x : Int) y (by omega) (by omega) hy0 hy1
        rw [Int.toNat_natCast] at p2
        generalize hp : (x : Int) * y = p at *
        have P2 := Lib.hid p2
        obtain ⟨lo, hlo⟩ : ∃ lo : Int, lo = ((s : Int) + p) % 4294967296 := ⟨_, rfl⟩
        obtain ⟨hi', hhi⟩ : ∃ hi' : Nat, (hi' : Int) = ((s : Int) + p) / 4294967296 := ⟨(((s : Int) + p) / 4294967296).toNat, by omega⟩
        obtain ⟨d, b', e1, e2, hd, hb', e3⟩ := borrow_three z lo b hz0 hz1 (by omega) (by omega) hb
        have hlo' := hlo.symm
        have hhi' := hhi.symm
        have hhib : hi' < 4294967296 := by omega
        have L1 : lo.toNat = (s + p.toNat) % 4294967296 := by omega
        have L2 : hi' = (s + p.toNat) / 4294967296 := by omega
        have E3 := Lib.hid e3
        have HL1 := Lib.hid L1
        have HL2 := Lib.hid L2
        have l0 : 0 ≤ lo := by omega
        have l1 : lo < 4294967296 := by omega
        clear e3 p2 hlo hhi L1 L2
        go_wp2
        go_roundw
        case rel =>
          refine ⟨k + 1, hi', b', o.set k (d : Int), by omega, by go_num, rfl, rfl, hhib, hb', by simp; omega, by simp; omega, ?_, only_setCell HG.out _ _, ?_⟩
          · rw [← J_set u i o k _ (by omega) (by omega)]
            exact HK.out.set _ (by omega) (by omega)
          · show _ = _ ∧ _
            refine ⟨?_, fun hh => by omega, fun j hj => ?_⟩
            · have e := ST.out d b' (by rw [← P2.out, ← HL1.out]; exact E3.out)
              rw [← P2.out, ← HL2.out] at e
              exact e
            · rw [getD_set_ne _ _ _ _ (by omega)]; exact HV.out.2.2 j (by omega)
        case measure => first | (simp [intOf]; done) | (simp [intOf]; omega)
      · obtain rfl := hm0 hkm
        clear hcm
        have P2 : Hid (0 = x * (0 : Int).toNat) := by show 0 = _; simp
        obtain ⟨hi', hhi⟩ : ∃ hi' : Nat, (hi' : Int) = (s : Int) / 4294967296 := ⟨((s : Int) / 4294967296).toNat, by omega⟩
        have hlo' : (s : Int) % 4294967296 = (s : Int) := by omega
        obtain ⟨d, b', e1, e2, hd, hb', e3⟩ := borrow_three z (s : Int) b hz0 hz1 (by omega) (by omega) hb
        have hhi' := hhi.symm
        have hhib : hi' < 4294967296 := by omega
        have hh0 : hi' = 0 := by omega
        have L1 : (s : Int).toNat = (s + 0) % 4294967296 := by omega
        have L2 : hi' = (s + 0) / 4294967296 := by omega
        have E3 := Lib.hid e3
        have HL1 := Lib.hid L1
        have HL2 := Lib.hid L2
        have HH0 := Lib.hid hh0
        clear e3 hhi L1 L2 hh0
        go_wp2
        go_roundw
        case rel =>
          refine ⟨k + 1, hi', b', o.set k (d : Int), by omega, by go_num, rfl, rfl, hhib, hb', by simp; omega, by simp; omega, ?_, only_setCell HG.out _ _, ?_⟩
          · rw [← J_set u i o k _ (by omega) (by omega)]
            exact HK.out.set _ (by omega) (by omega)
          · show _ = _ ∧ _
            refine ⟨?_, fun hh => HH0.out, fun j hj => ?_⟩
            · have e := ST.out d b' (by rw [← P2.out, ← HL1.out]; exact E3.out)
              rw [← P2.out, ← HL2.out] at e
              exact e
            · rw [getD_set_ne _ _ _ _ (by omega)]; exact HV.out.2.2 j (by omega)
        case measure => first | (simp [intOf]; done) | (simp [intOf]; omega)
    · have hkk : k = n := by omega
      have hvo : val o + x * val v = val ((u.drop i).take n) + 4294967296 ^ n * b := by
        have e := HV.out.1
        rw [hkk, List.take_of_length_le (by omega), List.take_of_length_le (by omega), List.take_of_length_le (by omega), HV.out.2.1 (by omega), Nat.zero_add] at e
        exact e
      have HO := Lib.hid hvo
      have HK := Lib.hid hK
      have HG := Lib.hid hG
      have H' := Lib.hid h'
      clear hvo hkk hK hG h' hk
      go_wp2
      go_ret
      exact ⟨o, b, rfl, hb, by omega, HK.out, HG.out, HO.out⟩

set_option maxHeartbeats 2000000 in
theorem back_any (g c i n cu c' : Nat) (A' : Option Addr) (u v : List Int) (w : World) (hk : Bw w g c u) (hi : i + n ≤ u.length) (h' : ∀ W, w.grownBy W (some g) → Rd W A' v) (hvn : v.length < n) (hn8 : n ≤ 1000000) :
    Calls Tryz.prog 119 #[.slice (some ⟨g, i, none⟩) n cu, .slice A' v.length c'] w fun e w' =>
      ∃ (p : List Int) (s : Nat), e = .returned (.tuple #[]) ∧ p.length = n ∧ Bw w' g c (J u i p) ∧ w.grownBy w' (some g) ∧
        val p + 4294967296 ^ n * s = val ((u.drop i).take n) + val v := by
  have hu0 : ((u.drop i).take n).length = n := by rw [List.length_take, List.length_drop]; omega
  go_enter Tryz.func119, Tryz.ntmps119
  go_wp2
  go_loopw [4, 8] (fun cv kv wr => ∃ (k s : Nat) (o : List Int), k ≤ n ∧ kv = .int .i64 k ∧ cv = .int .u64 s ∧ s ≤ 1 ∧ o.length ≤ n ∧ n ≤ o.length ∧ Bw wr g c (J u i o) ∧ w.grownBy wr (some g) ∧
      Hid (val (o.take k) + 4294967296 ^ k * s = val (((u.drop i).take n).take k) + val (v.take k) ∧ ∀ j, k ≤ j → o.getD j 0 = ((u.drop i).take n).getD j 0)) (fun _ kv _ => n - (intOf kv).toNat)
  case atStart =>
    refine ⟨0, 0, (u.drop i).take n, Nat.zero_le _, rfl, rfl, by omega, by omega, by omega, by rw [J_self u i n hi]; exact hk, only_refl _ _, ?_⟩
    show _ = _ ∧ _
    simp [val]
  case round =>
    obtain ⟨k, s, o, hkn, rfl, rfl, hs, ho1, ho2, hK, hG, HV⟩ := hrel
    by_cases hlt : k < n
    · have hc := hK.cell (j := i + k) (by rw [J_length u i o (by omega)]; omega)
      have hf := hK.frozen (i + k)
      rw [J_getD u i o k (by omega) (by omega)] at hc
      have hz := (J_inr u i o hK.inr).getD k
      have hz0 := hz.1
      have hz1 := hz.2
      have hR := h' wr hG
      have hy := hR.inr.getD k
      have hy0 := hy.1
      have hy1 := hy.2
      have hzl := HV.out.2 k (Nat.le_refl _)
      have st := add_step ((u.drop i).take n) v o k s (s + (((u.drop i).take n).getD k 0).toNat + (v.getD k 0).toNat) (by omega) HV.out.1 rfl
      rw [← hzl] at st
      have hm0 : ¬ k < v.length → v.getD k 0 = 0 := fun hn => by simp [List.getD_eq_getElem?_getD, Nat.not_lt.1 hn]
      have hcm : k < v.length → ∃ ad', A' = some ad' ∧ wr.cell? (ad'.add k) = some (.int .u32 (v.getD k 0)) := fun hn => hR.at_ hn
      generalize o.getD k 0 = z at *
      generalize v.getD k 0 = y at *
      have ST := Lib.hid st
      have HK := Lib.hid hK
      have HG := Lib.hid hG
      have H' := Lib.hid h'
      clear st hK hG h' hR hy hz hzl hk
      by_cases hkm : k < v.length
      · obtain ⟨ad', rfl, hcm⟩ := hcm hkm
        clear hm0
        go_wp2
        go_roundw
        case rel =>
          refine ⟨k + 1, (s + z.toNat + y.toNat) / 4294967296, o.set k (((s + z.toNat + y.toNat) % 4294967296 : Nat) : Int), by omega, by go_num, ?_, by omega, by simp; omega, by simp; omega, ?_, only_setCell HG.out _ _, ?_⟩
          · congr 1; omega
          · rw [← J_set u i o k _ (by omega) (by omega)]
            have e : ((s : Int) + z + y) % 4294967296 = (((s + z.toNat + y.toNat) % 4294967296 : Nat) : Int) := by omega
            rw [← e]
            exact HK.out.set _ (by omega) (by omega)
          · refine ⟨ST.out, fun j hj => ?_⟩
            rw [getD_set_ne _ _ _ _ (by omega)]; exact HV.out.2 j (by omega)
        case measure => first | (simp [intOf]; done) | (simp [intOf]; omega)
      · obtain rfl := hm0 hkm
        clear hcm
        go_wp2
        go_roundw
        case rel =>
          refine ⟨k + 1, (s + z.toNat + (0 : Int).toNat) / 4294967296, o.set k (((s + z.toNat + (0 : Int).toNat) % 4294967296 : Nat) : Int), by omega, by go_num, ?_, by omega, by simp; omega, by simp; omega, ?_, only_setCell HG.out _ _, ?_⟩
          · congr 1; omega
          · rw [← J_set u i o k _ (by omega) (by omega)]
            have e : ((s : Int) + z) % 4294967296 = (((s + z.toNat + (0 : Int).toNat) % 4294967296 : Nat) : Int) := by omega
            rw [← e]
            exact HK.out.set _ (by omega) (by omega)
          · refine ⟨ST.out, fun j hj => ?_⟩
            rw [getD_set_ne _ _ _ _ (by omega)]; exact HV.out.2 j (by omega)
        case measure => first | (simp [intOf]; done) | (simp [intOf]; omega)
    · have hkk : k = n := by omega
      have hvo : val o + 4294967296 ^ n * s = val ((u.drop i).take n) + val v := by
        have e := HV.out.1
        rw [hkk, List.take_of_length_le (l := o) (by omega), List.take_of_length_le (l := (u.drop i).take n) (by omega), List.take_of_length_le (l := v) (by omega)] at e
        exact e
      have HO := Lib.hid hvo
      have HK := Lib.hid hK
      have HG := Lib.hid hG
      have H' := Lib.hid h'
      clear hvo hkk hK hG h' hk
      go_wp2
      go_end0
      exact ⟨o, s, rfl, by omega, HK.out, HG.out, HO.out⟩
end Go.Proofs.YtolbafckppafkaaGreatDoor

/-
  PACKAGE nat, NINTH PART: Of, Uint64, small sizes.
-/
set_option linter.unusedVariables false
set_option linter.unusedSimpArgs false
set_option linter.unnecessarySimpa false
namespace Go.Proofs.YtolbafckppafkaaGreatDoor
open Go.RowKit Pl

set_option maxHeartbeats 400000 in
theorem Of_any (x : Nat) (w : World) (hx : x < 18446744073709551616) :
    Calls Tryz.prog 80 #[.int .u64 x] w fun e w' =>
      ∃ B d, e = .returned (.slice B (words x).length d) ∧ Ow w' w.heap.size B d (words x) ∧ Below w.heap.size w w' := by
  obtain ⟨lo, hlo⟩ : ∃ lo : Nat, lo = x % 4294967296 := ⟨_, rfl⟩
  obtain ⟨hi, hhi⟩ : ∃ hi : Nat, hi = x / 4294967296 := ⟨_, rfl⟩
  have e1 : (x : Int) % 4294967296 = (lo : Int) := by omega
  have e2 : (x : Int) / 4294967296 = (hi : Int) := by omega
  have e3 : (hi : Int) % 4294967296 = (hi : Int) := by omega
  have hr : InR [(lo : Int), (hi : Int)] := InR.cons (by omega) (by omega) (InR.cons (by omega) (by omega) InR.nil)
  have hv : val [(lo : Int), (hi : Int)] = x := by simp only [val, Int.toNat_natCast]; omega
  have hK : Bw (w.alloc (.cells (cellsOf [(lo : Int), (hi : Int)]) 43)) w.heap.size 2 [(lo : Int), (hi : Int)] := Bw.of_blk (Blk.new _ _ _) hr (by simp)
  have T := cut_any (some ⟨w.heap.size, 0, none⟩) 2 _ _ hK.rd hK.le
  have hcw := cut_words hr
  rw [hv] at hcw
  have hO := hK.take (cut [(lo : Int), (hi : Int)]).length
  rw [← cut_take, hcw] at hO
  rw [hcw] at T
  have T' := Lib.hid T
  have O' := Lib.hid hO
  have B' := Lib.hid ((Below.refl w.heap.size w).alloc (Nat.le_refl _) (.cells (cellsOf [(lo : Int), (hi : Int)]) 43))
  clear T hO hcw hv hr hK hlo hhi hx
  go_enter Tryz.func80, Tryz.ntmps80
  go_wp2_with fail
  refine T'.out.mono ?_
  rintro e w1 ⟨rfl, rfl⟩
  go_wp2
  go_ret
  exact ⟨_, _, rfl, .inr ⟨_, rfl, Nat.le_refl _, O'.out⟩, B'.out⟩

theorem or64_00 (y : Int) (h0 : 0 ≤ y) (h1 : y < 4294967296) : bits BinOp.or IntKind.u64 0 y = y := by
  obtain ⟨b, rfl⟩ := Int.eq_ofNat_of_zero_le h0
  have := u64_or_nat 0 b (by omega) (by omega)
  rw [Nat.zero_or] at this
  exact this
set_option maxHeartbeats 400000 in
theorem Uint64_any (A : Option Addr) (c : Nat) (l : List Int) (w : World) (h : Rd w A l) (hc : l.length ≤ c) (hn : Norm l) (hl : l.length ≤ 2) :
    Calls Tryz.prog 93 #[.slice A l.length c] w fun e w' => e = .returned (.tuple #[.int .u64 (val l), .bool true]) ∧ w = w' := by
  have C := cut_any A c l w h hc
  have e0 : Pl.cut l = l := norm_ext (cut_norm h.inr) hn (cut_val l)
  rw [e0] at C
  have HC := Lib.hid C
  clear C e0
  match l, hl with
  | [], _ =>
    go_enter Tryz.func93, Tryz.ntmps93
    go_wp2_with fail
    refine HC.out.mono ?_
    rintro e w1 ⟨rfl, rfl⟩
    go_wp2
    refine wp_loop_rounds 1 ?_
    rw [rounds_succ]
    go_wp2
    go_ret2
    exact ⟨rfl, rfl⟩
  | [a], _ =>
    obtain ⟨ad, rfl, hcell⟩ := h.at_ (i := 0) (by simp)
    have ha := h.inr.getD 0
    have ha0 : 0 ≤ a := ha.1
    have ha1 : a < 4294967296 := ha.2
    have hcell' : w.cell? ad = some (.int .u32 a) := by
      have e : ad.add 0 = ad := by unfold Addr.add; simp
      rw [e] at hcell; exact hcell
    have o := or64_00 a ha0 ha1
    have hv : (val [a] : Int) = a := by simp only [val]; omega
    rw [hv]
    clear hv hcell ha
    go_enter Tryz.func93, Tryz.ntmps93
    go_wp2_with fail
    refine HC.out.mono ?_
    rintro e w1 ⟨rfl, rfl⟩
    go_wp2
    refine wp_loop_rounds 2 ?_
    rw [rounds_succ]
    go_wp2
    rw [rounds_succ]
    go_wp2
    go_ret2
    exact ⟨rfl, rfl⟩
  | [a, b], _ =>
    obtain ⟨ad, rfl, hcell⟩ := h.at_ (i := 0) (by simp)
    have hcell2 : w.cell? ⟨ad.block, ad.off + 1, none⟩ = some (.int .u32 b) := by
      obtain ⟨ad', e, h1⟩ := h.at_ (i := 1) (by simp)
      injection e with e; subst e
      have e : ad.add 1 = ⟨ad.block, ad.off + 1, none⟩ := by unfold Addr.add; simp
      rw [e] at h1; exact h1
    have ha := h.inr.getD 0
    have ha0 : 0 ≤ a := ha.1
    have ha1 : a < 4294967296 := ha.2
    have hb := h.inr.getD 1
    have hb0 : 0 ≤ b := hb.1
    have hb1 : b < 4294967296 := hb.2
    have hcell' : w.cell? ad = some (.int .u32 a) := by
      have e : ad.add 0 = ad := by unfold Addr.add; simp
      rw [e] at hcell; exact hcell
    have o := or64_00 a ha0 ha1
    have o2 := or64' a b ha0 ha1 hb0 hb1
    have hv : val [a, b] = a.toNat + 4294967296 * b.toNat := by simp only [val]; omega
    rw [hv]
    generalize a.toNat + 4294967296 * b.toNat = X at *
    clear hv hcell ha hb
    go_enter Tryz.func93, Tryz.ntmps93
    go_wp2_with fail
    refine HC.out.mono ?_
    rintro e w1 ⟨rfl, rfl⟩
    go_wp2
    refine wp_loop_rounds 3 ?_
    rw [rounds_succ]
    go_wp2
    rw [rounds_succ]
    go_wp2
    rw [rounds_succ]
    go_wp2
    go_ret2
    exact ⟨rfl, rfl⟩
end Go.Proofs.YtolbafckppafkaaGreatDoor

/-
  PACKAGE nat, TENTH PART: divide, the two short ways.
-/
set_option linter.unusedVariables false
set_option linter.unusedSimpArgs false
set_option linter.unnecessarySimpa false
namespace Go.Proofs.YtolbafckppafkaaGreatDoor
open Go.RowKit Pl

set_option maxHeartbeats 400000 in
theorem divide_less (A A' : Option Addr) (c c' : Nat) (l m : List Int) (w : World) (h : Rd w A l) (h' : Rd w A' m) (hl : Norm l) (hl8 : l.length ≤ 8190) (hc : l.length ≤ c) (hc' : m.length ≤ c') (hv : val l < val m) :
    Calls Tryz.prog 92 #[.slice A l.length c, .slice A' m.length c'] w fun e w' =>
      ∃ B d B' d', e = .returned (.tuple #[.slice B (words (val l / val m)).length d, .slice B' (words (val l % val m)).length d']) ∧
        Ow w' w.heap.size B d (words (val l / val m)) ∧ Ow w' w.heap.size B' d' (words (val l % val m)) ∧ Below w.heap.size w w' := by
  rw [Nat.div_eq_of_lt hv, Nat.mod_eq_of_lt hv, words_zero, words_val hl]
  have C2 := Lib.hid (Compare_any A A' c c' l m w h hc h' hc')
  have K1 : cmpN (val l) (val m) = -1 := by unfold cmpN; rw [if_pos hv]
  rw [K1] at C2
  clear hv K1 hl
  go_enter Tryz.func92, Tryz.ntmps92
  go_wp2_with fail
  refine C2.out.mono ?_
  rintro e w' ⟨rfl, n, rfl⟩
  have hb0 := below_drawn w n
  go_wp2_with fail
  refine (Clone_any A c l _ (h.below hb0) hc (by omega)).mono ?_
  rintro e w1 ⟨B, d, rfl, hO, hB⟩
  have HO := Lib.hid hO
  have HB := Lib.hid (below_trans hb0 hB)
  clear hO hB
  go_wp2
  go_ret2
  exact ⟨_, _, _, _, rfl, Ow.nil _ _, HO.out, HB.out⟩

set_option maxHeartbeats 1000000 in
theorem divide_one (A A' : Option Addr) (c c' : Nat) (l m : List Int) (w : World) (h : Rd w A l) (h' : Rd w A' m) (hm : Norm m) (hl8 : l.length ≤ 8190) (hc : l.length ≤ c) (hc' : m.length ≤ c') (hv : val m ≤ val l) (h1 : m.length = 1) :
    Calls Tryz.prog 92 #[.slice A l.length c, .slice A' m.length c'] w fun e w' =>
      ∃ B d B' d', e = .returned (.tuple #[.slice B (words (val l / val m)).length d, .slice B' (words (val l % val m)).length d']) ∧
        Ow w' w.heap.size B d (words (val l / val m)) ∧ Ow w' w.heap.size B' d' (words (val l % val m)) ∧ Below w.heap.size w w' := by
  have C2 := Lib.hid (Compare_any A A' c c' l m w h hc h' hc')
  have K1 : cmpN (val l) (val m) = 0 ∨ cmpN (val l) (val m) = 1 := by
    unfold cmpN; rw [if_neg (by omega)]; split <;> simp
  generalize cmpN (val l) (val m) = q at *
  have hq : 0 ≤ q := by omega
  have hd : decide (q < 0) = false := by simpa using hq
  obtain ⟨x, rfl⟩ := List.length_eq_one_iff.1 h1
  · obtain ⟨ad, rfl, hcell⟩ := h'.at_ (i := 0) (by simp)
    have hx := h'.inr.getD 0
    have hx0 : 0 ≤ x := hx.1
    have hx1 : x < 4294967296 := hx.2
    have hpos := hm.val_pos (by simp)
    obtain ⟨y, rfl⟩ := Int.eq_ofNat_of_zero_le hx0
    have hvy : val [(y : Int)] = y := by simp [val]
    have hcell' : w.cell? ad = some (.int .u32 (y : Int)) := by
      have e : ad.add 0 = ad := by unfold Addr.add; simp
      rw [e] at hcell; exact hcell
    rw [hvy] at hpos hv ⊢
    obtain ⟨qq, hqq⟩ : ∃ qq, qq = val l / y := ⟨_, rfl⟩
    obtain ⟨r, hrr⟩ : ∃ r, r = val l % y := ⟨_, rfl⟩
    have SM : ∀ (W : World) (B : Option Addr) (d : Nat), Ow W w.heap.size B d l → Calls Tryz.prog 104 #[.slice B l.length d, .int .u32 (y : Int)] W fun e w' =>
        e = .returned (.tuple #[.slice B (words qq).length d, .int .u32 (r : Int)]) ∧ Ow w' w.heap.size B d (words qq) ∧ W.grownBy w' (B.map (·.block)) := by
      intro W B d hO
      rw [hqq, hrr]
      exact small_any w.heap.size d B l y W hO hpos (by omega)
    have hr1 : r < 4294967296 := by have := Nat.mod_lt (val l) hpos; omega
    have hr2 : (r : Int) ≤ 4294967295 := by omega
    have wr : IntKind.u64.wrap (r : Int) = (r : Int) := by rw [wrap_u64']; omega
    rw [← hqq, ← hrr]
    have HSM := Lib.hid SM
    have HR1 := Lib.hid hr1
    clear SM hqq hrr hr1
    have HV := Lib.hid hv
    have HY := Lib.hid hvy
    clear hv hvy hcell hx K1 hm
    go_enter Tryz.func92, Tryz.ntmps92
    go_wp2_with fail
    refine C2.out.mono ?_
    rintro e w' ⟨rfl, n, rfl⟩
    go_wp2_with fail
    have HR := Lib.hid (fun k => h.below (below_drawn w k))
    have HC := Lib.hid hcell'
    have H8 := Lib.hid hl8
    clear h hl8
    go_region_with (first | (go_at_call 91; refine (Clone_any A c l _ (HR.out _) hc (by have := H8.out; omega)).mono ?_; rintro e w1 ⟨B, d, rfl, hO, hB⟩; have HO : Hid (Ow w1 w.heap.size B d l) := hO; have HB : Hid (Below w.heap.size w w1) := below_trans (below_drawn w _) hB; have hcw : w1.cell? ad = some (.int .u32 (y : Int)) := (HB.out.cell (World.block_lt_of_cell? w ad HC.out)).trans HC.out; clear hO hB) | (go_at_call 104; refine (HSM.out _ B d HO.out).mono ?_; rintro e w2 ⟨rfl, hO2, hG2⟩; have HO2 := Lib.hid hO2; have HG2 := Lib.hid hG2; clear hO2 hG2))
    all_goals
      go_wp2_with fail
      refine (Of_any r _ (by have := HR1.out; omega)).mono ?_
      rintro e w3 ⟨B', d', rfl, hO3, hB3⟩
      have HO3 := Lib.hid hO3
      have HB3 := Lib.hid hB3
      clear hO3 hB3
      go_wp2
      go_ret2
      have hB2 : Below w.heap.size w w2 := HB.out.trans (HO.out.only HG2.out HB.out.size)
      exact ⟨_, _, _, _, rfl, HO2.out.below HB3.out, HO3.out.mono hB2.size, hB2.trans (HB3.out.mono hB2.size)⟩
end Go.Proofs.YtolbafckppafkaaGreatDoor
