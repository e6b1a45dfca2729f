/-
  PACKAGE ratio, THIRD PART: Check, checks.
-/
import Derived.Test.YtbjclfmplndkcaaGreatDoorRb
set_option linter.unusedVariables false
set_option linter.unusedSimpArgs false
set_option linter.unnecessarySimpa false
namespace Go.Proofs.YtbjclfmplndkcaaGreatDoor
open Go.RowKit Pl

/-- ratio.Check -/
def chk (a : F) : Int :=
  if 2048 < a.num.length then 3 else if 2048 < a.den.length then 3 else
  if natChk a.num ≠ 0 then 11 else if natChk a.den ≠ 0 then 11 else if a.den.length = 0 then 11 else
  if a.num.length = 0 ∧ a.neg = true then 11 else if (val a.num).gcd (val a.den) = 1 then 0 else 11
theorem chk_ok {a : F} (hn : InR a.num) (hd : InR a.den) : chk a = 0 ↔ a.ok := by
  unfold chk F.ok
  rw [← List.length_pos_iff]
  by_cases h1 : 2048 < a.num.length
  · rw [if_pos h1]; constructor
    · intro h; omega
    · intro h; omega
  rw [if_neg h1]
  by_cases h2 : 2048 < a.den.length
  · rw [if_pos h2]; constructor
    · intro h; omega
    · intro h; omega
  rw [if_neg h2]
  by_cases h3 : natChk a.num ≠ 0
  · rw [if_pos h3]; constructor
    · intro h; omega
    · intro h; exact absurd ((natChk_ok hn).2 ⟨by omega, h.1⟩) h3
  rw [if_neg h3]
  by_cases h4 : natChk a.den ≠ 0
  · rw [if_pos h4]; constructor
    · intro h; omega
    · intro h; exact absurd ((natChk_ok hd).2 ⟨by omega, h.2.1⟩) h4
  rw [if_neg h4]
  have k3 := (natChk_ok hn).1 (by omega)
  have k4 := (natChk_ok hd).1 (by omega)
  by_cases h5 : a.den.length = 0
  · rw [if_pos h5]; constructor
    · intro h; omega
    · intro h; have := h.2.2.2.2.2.1; omega
  rw [if_neg h5]
  by_cases h6 : a.num.length = 0 ∧ a.neg = true
  · rw [if_pos h6]; constructor
    · intro h; omega
    · intro h; have := h.2.2.2.2.2.2 (List.eq_nil_of_length_eq_zero h6.1); rw [h6.2] at this; cases this
  rw [if_neg h6]
  have k6 : a.num = [] → a.neg = false := by
    intro h; cases hb : a.neg
    · rfl
    · exact absurd ⟨by rw [h]; rfl, hb⟩ h6
  by_cases h7 : (val a.num).gcd (val a.den) = 1
  · rw [if_pos h7]; exact ⟨fun _ => ⟨k3.2, k4.2, by omega, by omega, h7, by omega, k6⟩, fun _ => rfl⟩
  · rw [if_neg h7]; constructor
    · intro h; omega
    · intro h; exact absurd h.2.2.2.2.1 h7

/-- a comparison with a list of the one word 1, laid just ahead -/
theorem cmp1_any (B : Option Addr) (b g : Nat) (W : List Int) (w1 : World) (h : Rd w1 B W) (hb : W.length ≤ b) (hv : val W = g) :
    Calls Tryz.prog 22 #[.slice B W.length b, .slice (some { block := w1.heap.size, off := 0 }) 1 1] (w1.alloc (Obj.cells #[.int .u32 1] 40)) fun e w' =>
      e = .returned (.int .i64 (cmpN g 1)) ∧ Below w1.heap.size w1 w' := by
  have hb1 : Below w1.heap.size w1 (w1.alloc (Obj.cells #[.int .u32 1] 40)) := (Below.refl _ _).alloc (Nat.le_refl _) _
  have hr : InR [1] := by intro x hx; simp only [List.mem_singleton] at hx; omega
  have hK : Bw (w1.alloc (.cells (cellsOf [1]) 40)) w1.heap.size 1 [1] := Bw.of_blk (Blk.new _ _ _) hr (by simp)
  refine (Compare_any B _ b 1 W [1] _ (h.below hb1) hb hK.rd (Nat.le_refl _)).mono ?_
  rintro e w' ⟨rfl, n, rfl⟩
  have h1 : val [1] = 1 := rfl
  rw [hv, h1]
  exact ⟨rfl, below_drewN hb1 n⟩

set_option maxHeartbeats 1000000 in
theorem rCheck_any (f : F) (A A' : Option Addr) (c c' : Nat) (w : World) (h : Rd w A f.num) (h' : Rd w A' f.den) (hc : f.num.length ≤ c) (hc' : f.den.length ≤ c') :
    Calls Tryz.prog 7 #[.agg #[.bool f.neg, .slice A f.num.length c, .slice A' f.den.length c']] w fun e w' =>
      e = .returned (.int .i64 (chk f)) ∧ Below w.heap.size w w' := by
  obtain ⟨neg, l, m⟩ := f
  unfold chk
  simp only at h h' hc hc' ⊢
  have hl := h.len
  have hm := h'.len
  by_cases h1 : 2048 < l.length
  · rw [if_pos h1]
    go_enter Tryz.func7, Tryz.ntmps7
    go_wp2_with (go_at_call 23; refine (rlong_any _ _ _ _ (by omega)).mono ?_; rintro e w' ⟨rfl, rfl⟩)
    go_ret
    exact ⟨rfl, (Below.refl _ _).alloc (Nat.le_refl _) _⟩
  rw [if_neg h1]
  by_cases h2 : 2048 < m.length
  · rw [if_pos h2]
    go_enter Tryz.func7, Tryz.ntmps7
    go_wp2_with (go_at_call 23; refine (rlong_any _ _ _ _ (by omega)).mono ?_; rintro e w' ⟨rfl, rfl⟩)
    go_ret
    exact ⟨rfl, (Below.refl _ _).alloc (Nat.le_refl _) _⟩
  rw [if_neg h2]
  have hb0 : Below w.heap.size w (w.alloc (Obj.cells #[.bool neg, .slice A l.length c, .slice A' m.length c'] 24)) := (Below.refl _ _).alloc (Nat.le_refl _) _
  have K1 := Lib.hid (Check_any A c l _ (h.below hb0))
  have K2 := Lib.hid (Check_any A' c' m _ (h'.below hb0))
  have N1 : natChk l = 0 → Norm l := fun e => ((natChk_ok h.inr).1 e).2
  have N2 : natChk m = 0 → Norm m := fun e => ((natChk_ok h'.inr).1 e).2
  generalize natChk l = p at *
  generalize natChk m = q at *
  by_cases h3 : p ≠ 0
  · rw [if_pos h3]
    have hp : (p != 0) = true := bne_iff_ne.2 h3
    clear N1 N2
    go_enter Tryz.func7, Tryz.ntmps7
    go_wp2_with (first | (go_at_call 23; refine (rlong_any _ _ _ _ (by omega)).mono ?_; rintro e w' ⟨rfl, rfl⟩) | ((with_reducible refine K1.out.mono ?_); rintro e w' ⟨rfl, rfl⟩))
    go_ret
    exact ⟨rfl, hb0⟩
  rw [if_neg h3]
  have hp0 : p = 0 := by omega
  have L := N1 hp0
  subst hp0
  clear N1 h3
  by_cases h4 : q ≠ 0
  · rw [if_pos h4]
    have hp : (q != 0) = true := bne_iff_ne.2 h4
    clear N2 L
    go_enter Tryz.func7, Tryz.ntmps7
    go_wp2_with (first | (go_at_call 23; refine (rlong_any _ _ _ _ (by omega)).mono ?_; rintro e w' ⟨rfl, rfl⟩) | ((with_reducible refine K1.out.mono ?_); rintro e w' ⟨rfl, rfl⟩) | ((with_reducible refine K2.out.mono ?_); rintro e w' ⟨rfl, rfl⟩))
    go_ret
    exact ⟨rfl, hb0⟩
  rw [if_neg h4]
  have hq0 : q = 0 := by omega
  have M := N2 hq0
  subst hq0
  clear N2 h4
  have HL := Lib.hid L
  have HM := Lib.hid M
  clear L M
  by_cases h5 : m.length = 0
  · rw [if_pos h5]
    have hp : ((m.length : Int) == 0) = true := by rw [h5]; rfl
    clear h5
    go_enter Tryz.func7, Tryz.ntmps7
    go_wp2_with (first | (go_at_call 23; refine (rlong_any _ _ _ _ (by omega)).mono ?_; rintro e w' ⟨rfl, rfl⟩) | ((with_reducible refine K1.out.mono ?_); rintro e w' ⟨rfl, rfl⟩) | ((with_reducible refine K2.out.mono ?_); rintro e w' ⟨rfl, rfl⟩))
    go_ret
    exact ⟨rfl, hb0⟩
  rw [if_neg h5]
  have hm0 : ((m.length : Int) == 0) = false := beq_eq_false_iff_ne.2 (by omega)
  by_cases h6 : l.length = 0 ∧ neg = true
  · rw [if_pos h6]
    have hl0 : ((l.length : Int) == 0) = true := by rw [h6.1]; rfl
    have hn0 := h6.2
    clear h6 h5
    subst hn0
    go_enter Tryz.func7, Tryz.ntmps7
    go_wp2_with (first | (go_at_call 23; refine (rlong_any _ _ _ _ (by omega)).mono ?_; rintro e w' ⟨rfl, rfl⟩) | ((with_reducible refine K1.out.mono ?_); rintro e w' ⟨rfl, rfl⟩) | ((with_reducible refine K2.out.mono ?_); rintro e w' ⟨rfl, rfl⟩))
    go_ret
    exact ⟨rfl, hb0⟩
  rw [if_neg h6]
  have h6' : (((l.length : Int) == 0) = true ∧ neg = false) ∨ ((l.length : Int) == 0) = false := by
    by_cases e : l.length = 0
    · cases neg
      · exact .inl ⟨by rw [e]; rfl, rfl⟩
      · exact absurd ⟨e, rfl⟩ h6
    · exact .inr (beq_eq_false_iff_ne.2 (by omega))
  have G := Lib.hid (Gcd_any A A' c c' l m _ (h.below hb0) (h'.below hb0) HL.out HM.out (by omega) (by omega) hc hc')
  obtain ⟨g, hg⟩ : ∃ g, g = (val l).gcd (val m) := ⟨_, rfl⟩
  rw [← hg] at G
  obtain ⟨r, hr⟩ : ∃ r : Int, r = if (val l).gcd (val m) = 1 then 0 else 11 := ⟨_, rfl⟩
  rw [← hr]
  have hr' : (g = 1 ∧ r = 0) ∨ (g ≠ 1 ∧ r = 11) := by
    rw [hr, hg]; split
    · exact .inl ⟨‹_›, rfl⟩
    · exact .inr ⟨‹_›, rfl⟩
  have HR := Lib.hid hr'
  clear hr hg hr' h6
  have HV := Lib.hid (val_words g)
  obtain ⟨W, hW⟩ : ∃ W, W = words g := ⟨_, rfl⟩
  rw [← hW] at G HV
  clear hW h5
  rcases h6' with ⟨hl0, rfl⟩ | hl0
  all_goals
    go_enter Tryz.func7, Tryz.ntmps7
    go_wp2_with (first | (go_at_call 23; refine (rlong_any _ _ _ _ (by omega)).mono ?_; rintro e w' ⟨rfl, rfl⟩) | ((with_reducible refine K1.out.mono ?_); rintro e w' ⟨rfl, rfl⟩) | ((with_reducible refine K2.out.mono ?_); rintro e w' ⟨rfl, rfl⟩) | ((with_reducible refine G.out.mono ?_); rintro e w1 ⟨B, b, rfl, hO, hB⟩; have HO := Lib.hid hO; have hB1 := below_trans hb0 hB; clear hO hB))
    refine (cmp1_any B b g W w1 HO.out.rd HO.out.le HV.out).mono ?_
    rintro e w2 ⟨rfl, hB⟩
    have HB2 := Lib.hid (below_trans hB1 hB)
    clear hB hB1
    rcases HR.out with ⟨rfl, rfl⟩ | ⟨hg1, rfl⟩
    · have e1 : cmpN 1 1 = 0 := rfl
      rw [e1]
      go_wp2
      go_ret
      exact ⟨rfl, HB2.out⟩
    · have e1 : (cmpN g 1 != 0) = true := by
        rw [bne_iff_ne]; unfold cmpN; split
        · omega
        · split <;> omega
      generalize cmpN g 1 = k at *
      go_wp2
      go_ret
      exact ⟨rfl, HB2.out⟩

end Go.Proofs.YtbjclfmplndkcaaGreatDoor
