/-
  PACKAGE nat, THIRTEENTH PART: divide, DivMod, Gcd.
-/
import Derived.Test.YtbjclfmplndkcaaGreatDoorNl
import Derived.Deep.LoopGhost
set_option linter.unusedVariables false
set_option linter.unusedSimpArgs false
set_option linter.unnecessarySimpa false
namespace Go.Proofs.YtbjclfmplndkcaaGreatDoor
open Go.RowKit Pl

theorem divide_any (A A' : Option Addr) (c c' : Nat) (l m : List Int) (w : World) (h : Rd w A l) (h' : Rd w A' m) (hl : Norm l) (hm : Norm m) (hl8 : l.length ≤ 8190) (hm8 : m.length ≤ 8190) (hc : l.length ≤ c) (hc' : m.length ≤ c') (h0 : m ≠ []) :
    Calls Tryz.prog 42 #[.slice A l.length c, .slice A' m.length c'] w fun e w' =>
      ∃ B d B' d', e = .returned (.tuple #[.slice B (words (val l / val m)).length d, .slice B' (words (val l % val m)).length d']) ∧
        Ow w' w.heap.size B d (words (val l / val m)) ∧ Ow w' w.heap.size B' d' (words (val l % val m)) ∧ Below w.heap.size w w' := by
  by_cases hv : val l < val m
  · exact divide_less A A' c c' l m w h h' hl hl8 hc hc' hv
  · have hlen : 0 < m.length := by
      cases m with
      | nil => exact absurd rfl h0
      | cons x xs => simp
    by_cases h1 : m.length = 1
    · exact divide_one A A' c c' l m w h h' hm hl8 hc hc' (by omega) h1
    · exact divide_long A A' c c' l m w h h' hl hm hl8 hm8 hc hc' (by omega) (by omega)

set_option maxHeartbeats 400000 in
theorem DivMod_any (A A' : Option Addr) (c c' : Nat) (l m : List Int) (w : World) (h : Rd w A l) (h' : Rd w A' m) (hl : Norm l) (hm : Norm m) (hl8 : l.length ≤ 8190) (hm8 : m.length ≤ 8190) (hc : l.length ≤ c) (hc' : m.length ≤ c') (h0 : m ≠ []) :
    Calls Tryz.prog 29 #[.slice A l.length c, .slice A' m.length c'] w fun e w' =>
      ∃ B d B' d', e = .returned (.tuple #[.slice B (words (val l / val m)).length d, .slice B' (words (val l % val m)).length d', .int .i64 0]) ∧
        Ow w' w.heap.size B d (words (val l / val m)) ∧ Ow w' w.heap.size B' d' (words (val l % val m)) ∧ Below w.heap.size w w' := by
  have C1 := Lib.hid (checked_ok A A' c c' l m w h h' hl (by omega) hm (by omega))
  have C2 := Lib.hid (divide_any A A' c c' l m w h h' hl hm hl8 hm8 hc hc' h0)
  have hlen : ((m.length : Int) == 0) = false := by
    cases m with
    | nil => exact absurd rfl h0
    | cons x xs => exact beq_eq_false_iff_ne.2 (by simp only [List.length_cons]; omega)
  go_enter Tryz.func29, Tryz.ntmps29
  go_wp2_with fail
  refine C1.out.mono ?_
  rintro e w' ⟨rfl, rfl⟩
  go_wp2_with fail
  refine C2.out.mono ?_
  rintro e w1 ⟨B, d, B', d', rfl, hO, hO', hB⟩
  have HO := Lib.hid hO
  have HO' := Lib.hid hO'
  have HB := Lib.hid hB
  clear hO hO' hB
  go_wp2
  go_ret3
  exact ⟨_, _, _, _, rfl, HO.out, HO'.out, HB.out⟩

set_option maxHeartbeats 1000000 in
theorem Gcd_any (A A' : Option Addr) (c c' : Nat) (l m : List Int) (w : World) (h : Rd w A l) (h' : Rd w A' m) (hl : Norm l) (hm : Norm m) (hl8 : l.length ≤ 8190) (hm8 : m.length ≤ 8190) (hc : l.length ≤ c) (hc' : m.length ≤ c') :
    Calls Tryz.prog 25 #[.slice A l.length c, .slice A' m.length c'] w fun e w' =>
      ∃ B d, e = .returned (.tuple #[.slice B (words ((val l).gcd (val m))).length d, .int .i64 0]) ∧ Ow w' w.heap.size B d (words ((val l).gcd (val m))) ∧ Below w.heap.size w w' := by
  have C1 := Lib.hid (checked_ok A A' c c' l m w h h' hl (by omega) hm (by omega))
  have HM := Lib.hid hm
  have HL := Lib.hid hl
  clear hl hm
  go_enter Tryz.func25, Tryz.ntmps25
  go_wp2_with fail
  refine C1.out.mono ?_
  rintro e w' ⟨rfl, rfl⟩
  go_wp2_with fail
  refine (Clone_any A c l w h hc (by omega)).mono ?_
  rintro e w1 ⟨X, dx, rfl, hX, hB1⟩
  have HX := Lib.hid hX
  have HB1 := Lib.hid hB1
  clear hX hB1
  go_wp2_with fail
  refine (Clone_any A' c' m w1 (h'.below HB1.out) hc' (by omega)).mono ?_
  rintro e w2 ⟨Y, dy, rfl, hY, hB2⟩
  have HX2 := Lib.hid (HX.out.below hB2)
  have HY := Lib.hid (hY.mono HB1.out.size)
  have HB2 := Lib.hid (HB1.out.trans (hB2.mono HB1.out.size))
  clear hY hB2
  go_wp2
  go_loopg [7, 8] (val m) (fun gk xv yv wr => ∃ (X Y : Option Addr) (dx dy : Nat) (x y : List Int), xv = .slice X x.length dx ∧ yv = .slice Y y.length dy ∧ Ow wr w.heap.size X dx x ∧ Ow wr w.heap.size Y dy y ∧ x.length ≤ 8190 ∧ y.length ≤ 8190 ∧ Below w.heap.size w wr ∧
      Hid (Norm x ∧ Norm y ∧ (val x).gcd (val y) = (val l).gcd (val m) ∧ val y ≤ gk))
  case atStart => exact ⟨X, Y, dx, dy, l, m, rfl, rfl, HX2.out, HY.out, hl8, hm8, HB2.out, ⟨HL.out, HM.out, rfl, Nat.le_refl _⟩⟩
  case round =>
    obtain ⟨X, Y, dx, dy, x, y, rfl, rfl, hX, hY, hx8, hy8, hB, HV⟩ := hrel
    have KX := Lib.hid hX
    have KY := Lib.hid hY
    have KB := Lib.hid hB
    clear hX hY hB h h' HX HY HX2 HB2 C1
    by_cases hg : 2 < y.length
    · have hne : y ≠ [] := by intro e; rw [e] at hg; simp at hg
      have D := Lib.hid (divide_any X Y dx dy x y wr KX.out.rd KY.out.rd HV.out.1 HV.out.2.1 hx8 hy8 KX.out.le KY.out.le hne)
      clear hne
      go_wp2_with fail
      refine D.out.mono ?_
      rintro e w3 ⟨Q, dq, R, dr, rfl, hQ, hR, hB3⟩
      have KR := Lib.hid (hR.mono KB.out.size)
      have KY3 := Lib.hid (KY.out.below hB3)
      have KB3 := Lib.hid (KB.out.trans (hB3.mono KB.out.size))
      clear hQ hR hB3
      go_wp2
      go_roundg (val x % val y)
      case measure =>
        have h1 : 0 < val y := HV.out.2.1.val_pos (by intro e; rw [e] at hg; simp at hg)
        have := Nat.mod_lt (val x) h1
        have := HV.out.2.2.2
        omega
      case rel =>
        have h1 : 0 < val y := HV.out.2.1.val_pos (by intro e; rw [e] at hg; simp at hg)
        have h2 := Nat.mod_lt (val x) h1
        refine ⟨Y, R, dy, dr, y, words (val x % val y), rfl, rfl, KY3.out, KR.out, hy8, ?_, KB3.out, HV.out.2.1, words_norm _, ?_, ?_⟩
        · have h3 := words_len.2 (Nat.lt_trans h2 (val_lt HV.out.2.1.1))
          omega
        · rw [val_words, ← HV.out.2.2.1, Nat.gcd_comm (val x), Nat.gcd_rec (val y) (val x), Nat.gcd_comm]
        · rw [val_words]; exact Nat.le_refl _
    · obtain ⟨G, hG⟩ : ∃ G, G = (val l).gcd (val m) := ⟨_, rfl⟩
      have HG := Lib.hid hG
      clear hG
      rcases Nat.eq_zero_or_pos y.length with hy0 | hy0
      · obtain rfl : y = [] := List.eq_nil_of_length_eq_zero hy0
        have e1 : words ((val l).gcd (val m)) = x := by
          rw [← HV.out.2.2.1]
          show words ((val x).gcd 0) = x
          rw [Nat.gcd_zero_right, words_val HV.out.1]
        have E1 := Lib.hid e1
        clear e1
        go_wp2
        go_ret2
        refine ⟨X, dx, ret_2 (slice_len ?_) rfl, ?_, KB.out⟩
        · rw [E1.out]
        · rw [E1.out]; exact KX.out
      · have hne : y ≠ [] := by intro e; rw [e] at hy0; simp at hy0
        have hyl : ((y.length : Int) == 0) = false := beq_eq_false_iff_ne.2 (by omega)
        have D := Lib.hid (divide_any X Y dx dy x y wr KX.out.rd KY.out.rd HV.out.1 HV.out.2.1 hx8 hy8 KX.out.le KY.out.le hne)
        have hvy : 0 < val y := HV.out.2.1.val_pos hne
        have hyB : val y < 18446744073709551616 := by
          have a1 := val_lt HV.out.2.1.1
          exact Nat.lt_of_lt_of_le a1 (Nat.pow_le_pow_right (n := 4294967296) (by omega) (show y.length ≤ 2 by omega))
        have hr2 : (words (val x % val y)).length ≤ 2 := words_len.2 (Nat.lt_trans (Nat.mod_lt _ hvy) hyB)
        have HVY := Lib.hid (And.intro hvy hyB)
        have HR2 := Lib.hid hr2
        clear hne hvy hyB hr2
        go_wp2_with fail
        refine D.out.mono ?_
        rintro e w3 ⟨Q, dq, R, dr, rfl, hQ, hR, hB3⟩
        have KR := Lib.hid (hR.mono KB.out.size)
        have KY3 := Lib.hid (KY.out.below hB3)
        have KB3 := Lib.hid (KB.out.trans (hB3.mono KB.out.size))
        clear hQ hR hB3
        go_wp2_with fail
        refine (Uint64_any Y dy y w3 KY3.out.rd KY3.out.le HV.out.2.1 (by omega)).mono ?_
        rintro e w3' ⟨rfl, rfl⟩
        go_wp2_with fail
        refine (Uint64_any R dr _ w3 KR.out.rd KR.out.le (words_norm _) HR2.out).mono ?_
        rintro e w3' ⟨rfl, rfl⟩
        rw [val_words]
        obtain ⟨a, ha⟩ : ∃ a, a = val y := ⟨_, rfl⟩
        obtain ⟨b, hb⟩ : ∃ b, b = val x % val y := ⟨_, rfl⟩
        rw [← hb, ← ha]
        have haB : a < 18446744073709551616 := by rw [ha]; exact HVY.out.2
        have hbB : b < 18446744073709551616 := by rw [hb]; exact Nat.lt_trans (Nat.mod_lt _ HVY.out.1) HVY.out.2
        have hab : a.gcd b = G := by rw [HG.out, ← HV.out.2.2.1, ha, hb, Nat.gcd_comm (val x), Nat.gcd_rec (val y) (val x), Nat.gcd_comm]
        have HAB := Lib.hid (And.intro hab (And.intro haB hbB))
        clear ha hb haB hbB hab
        go_wp2
        go_loopw [13, 15] (fun av bv wr => ∃ a b n : Nat, av = .int .u64 a ∧ bv = .int .u64 b ∧ wr = w3.drewN n ∧ Hid (a.gcd b = G ∧ a < 18446744073709551616 ∧ b < 18446744073709551616)) (fun _ bv _ => (intOf bv).toNat)
        case atStart => exact ⟨a, b, 0, rfl, rfl, rfl, HAB.out⟩
        case round =>
          obtain ⟨a, b, n, rfl, rfl, rfl, HI⟩ := hrel
          clear HAB
          rcases Nat.eq_zero_or_pos b with hb0 | hb0
          · subst hb0
            have e0 : a = G := by have := HI.out.1; rwa [Nat.gcd_zero_right] at this
            have E0 := Lib.hid e0
            clear e0
            go_wp2_with fail
            refine (Of_any a _ HI.out.2.1).mono ?_
            rintro e w4 ⟨B, d, rfl, hO, hB4⟩
            have HO := Lib.hid hO
            have HB4 := Lib.hid hB4
            clear hO hB4
            go_wp2
            go_ret2
            refine ⟨B, d, ret_2 (slice_len ?_) rfl, ?_, ?_⟩
            · rw [← HG.out, E0.out]
            · rw [← HG.out, ← E0.out]; exact HO.out.mono KB3.out.size
            · exact (below_drewN KB3.out n).trans (HB4.out.mono KB3.out.size)
          · have hb1 : ((b : Int) != 0) = true := by rw [bne_iff_ne]; omega
            have hb2 : (b : Int) ≠ 0 := by omega
            obtain ⟨r, hr⟩ : ∃ r, r = a % b := ⟨_, rfl⟩
            have e1 : (a : Int) % (b : Int) = (r : Int) := by rw [hr]; rfl
            have hrb : r < b := by rw [hr]; exact Nat.mod_lt _ hb0
            have HR := Lib.hid hr
            clear hr
            go_wp2
            go_quiet (fail)
            go_wp2
            go_roundw
            case rel =>
              refine ⟨b, r, _, rfl, congrArg (Value.int .u64) e1, World.drewN_drewN .., ?_, HI.out.2.2, ?_⟩
              · rw [HR.out, Nat.gcd_comm, ← Nat.gcd_rec, Nat.gcd_comm]; exact HI.out.1
              · have := HI.out.2.2; omega
            case measure =>
              first | (simp [intOf]; done) | (simp [intOf]; omega)
end Go.Proofs.YtbjclfmplndkcaaGreatDoor
