/-
  PACKAGE nat, TENTH PART: divide, the two short ways.
-/
import Derived.Test.YtbjclfmplndkcaaGreatDoorNi
import Derived.Deep.RegionWith
set_option linter.unusedVariables false
set_option linter.unusedSimpArgs false
set_option linter.unnecessarySimpa false
namespace Go.Proofs.YtbjclfmplndkcaaGreatDoor
open Go.RowKit Pl

set_option maxHeartbeats 400000 in
theorem divide_less (A A' : Option Addr) (c c' : Nat) (l m : List Int) (w : World) (h : Rd w A l) (h' : Rd w A' m) (hl : Norm l) (hl8 : l.length ≤ 8190) (hc : l.length ≤ c) (hc' : m.length ≤ c') (hv : val l < val m) :
    Calls Tryz.prog 42 #[.slice A l.length c, .slice A' m.length c'] w fun e w' =>
      ∃ B d B' d', e = .returned (.tuple #[.slice B (words (val l / val m)).length d, .slice B' (words (val l % val m)).length d']) ∧
        Ow w' w.heap.size B d (words (val l / val m)) ∧ Ow w' w.heap.size B' d' (words (val l % val m)) ∧ Below w.heap.size w w' := by
  rw [Nat.div_eq_of_lt hv, Nat.mod_eq_of_lt hv, words_zero, words_val hl]
  have C2 := Lib.hid (Compare_any A A' c c' l m w h hc h' hc')
  have K1 : cmpN (val l) (val m) = -1 := by unfold cmpN; rw [if_pos hv]
  rw [K1] at C2
  clear hv K1 hl
  go_enter Tryz.func42, Tryz.ntmps42
  go_wp2_with fail
  refine C2.out.mono ?_
  rintro e w' ⟨rfl, n, rfl⟩
  have hb0 := below_drawn w n
  go_wp2_with fail
  refine (Clone_any A c l _ (h.below hb0) hc (by omega)).mono ?_
  rintro e w1 ⟨B, d, rfl, hO, hB⟩
  have HO := Lib.hid hO
  have HB := Lib.hid (below_trans hb0 hB)
  clear hO hB
  go_wp2
  go_ret2
  exact ⟨_, _, _, _, rfl, Ow.nil _ _, HO.out, HB.out⟩

set_option maxHeartbeats 1000000 in
theorem divide_one (A A' : Option Addr) (c c' : Nat) (l m : List Int) (w : World) (h : Rd w A l) (h' : Rd w A' m) (hm : Norm m) (hl8 : l.length ≤ 8190) (hc : l.length ≤ c) (hc' : m.length ≤ c') (hv : val m ≤ val l) (h1 : m.length = 1) :
    Calls Tryz.prog 42 #[.slice A l.length c, .slice A' m.length c'] w fun e w' =>
      ∃ B d B' d', e = .returned (.tuple #[.slice B (words (val l / val m)).length d, .slice B' (words (val l % val m)).length d']) ∧
        Ow w' w.heap.size B d (words (val l / val m)) ∧ Ow w' w.heap.size B' d' (words (val l % val m)) ∧ Below w.heap.size w w' := by
  have C2 := Lib.hid (Compare_any A A' c c' l m w h hc h' hc')
  have K1 : cmpN (val l) (val m) = 0 ∨ cmpN (val l) (val m) = 1 := by
    unfold cmpN; rw [if_neg (by omega)]; split <;> simp
  generalize cmpN (val l) (val m) = q at *
  have hq : 0 ≤ q := by omega
  have hd : decide (q < 0) = false := by simpa using hq
  obtain ⟨x, rfl⟩ := List.length_eq_one_iff.1 h1
  · obtain ⟨ad, rfl, hcell⟩ := h'.at_ (i := 0) (by simp)
    have hx := h'.inr.getD 0
    have hx0 : 0 ≤ x := hx.1
    have hx1 : x < 4294967296 := hx.2
    have hpos := hm.val_pos (by simp)
    obtain ⟨y, rfl⟩ := Int.eq_ofNat_of_zero_le hx0
    have hvy : val [(y : Int)] = y := by simp [val]
    have hcell' : w.cell? ad = some (.int .u32 (y : Int)) := by
      have e : ad.add 0 = ad := by unfold Addr.add; simp
      rw [e] at hcell; exact hcell
    rw [hvy] at hpos hv ⊢
    obtain ⟨qq, hqq⟩ : ∃ qq, qq = val l / y := ⟨_, rfl⟩
    obtain ⟨r, hrr⟩ : ∃ r, r = val l % y := ⟨_, rfl⟩
    have SM : ∀ (W : World) (B : Option Addr) (d : Nat), Ow W w.heap.size B d l → Calls Tryz.prog 53 #[.slice B l.length d, .int .u32 (y : Int)] W fun e w' =>
        e = .returned (.tuple #[.slice B (words qq).length d, .int .u32 (r : Int)]) ∧ Ow w' w.heap.size B d (words qq) ∧ W.grownBy w' (B.map (·.block)) := by
      intro W B d hO
      rw [hqq, hrr]
      exact small_any w.heap.size d B l y W hO hpos (by omega)
    have hr1 : r < 4294967296 := by have := Nat.mod_lt (val l) hpos; omega
    have hr2 : (r : Int) ≤ 4294967295 := by omega
    have wr : IntKind.u64.wrap (r : Int) = (r : Int) := by rw [wrap_u64']; omega
    rw [← hqq, ← hrr]
    have HSM := Lib.hid SM
    have HR1 := Lib.hid hr1
    clear SM hqq hrr hr1
    have HV := Lib.hid hv
    have HY := Lib.hid hvy
    clear hv hvy hcell hx K1 hm
    go_enter Tryz.func42, Tryz.ntmps42
    go_wp2_with fail
    refine C2.out.mono ?_
    rintro e w' ⟨rfl, n, rfl⟩
    go_wp2_with fail
    have HR := Lib.hid (fun k => h.below (below_drawn w k))
    have HC := Lib.hid hcell'
    have H8 := Lib.hid hl8
    clear h hl8
    go_region_with (first | (go_at_call 41; refine (Clone_any A c l _ (HR.out _) hc (by have := H8.out; omega)).mono ?_; rintro e w1 ⟨B, d, rfl, hO, hB⟩; have HO : Hid (Ow w1 w.heap.size B d l) := hO; have HB : Hid (Below w.heap.size w w1) := below_trans (below_drawn w _) hB; have hcw : w1.cell? ad = some (.int .u32 (y : Int)) := (HB.out.cell (World.block_lt_of_cell? w ad HC.out)).trans HC.out; clear hO hB) | (go_at_call 53; refine (HSM.out _ B d HO.out).mono ?_; rintro e w2 ⟨rfl, hO2, hG2⟩; have HO2 := Lib.hid hO2; have HG2 := Lib.hid hG2; clear hO2 hG2))
    all_goals
      go_wp2_with fail
      refine (Of_any r _ (by have := HR1.out; omega)).mono ?_
      rintro e w3 ⟨B', d', rfl, hO3, hB3⟩
      have HO3 := Lib.hid hO3
      have HB3 := Lib.hid hB3
      clear hO3 hB3
      go_wp2
      go_ret2
      have hB2 : Below w.heap.size w w2 := HB.out.trans (HO.out.only HG2.out HB.out.size)
      exact ⟨_, _, _, _, rfl, HO2.out.below HB3.out, HO3.out.mono hB2.size, hB2.trans (HB3.out.mono hB2.size)⟩
end Go.Proofs.YtbjclfmplndkcaaGreatDoor
