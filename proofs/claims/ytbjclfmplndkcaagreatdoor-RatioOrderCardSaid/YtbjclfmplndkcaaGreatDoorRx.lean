/-
  PLAIN: what RatioOrder says, over Rat.
-/
import Derived.Test.YtbjclfmplndkcaaGreatDoorRk
import Derived.Test.YtbjclfmplndkcaaGreatDoorRr
set_option linter.unusedVariables false
set_option linter.unusedSimpArgs false
set_option linter.unnecessarySimpa false
namespace Go.Proofs.YtbjclfmplndkcaaGreatDoor
open Go.RowKit Pl

theorem cmpQ_neg (x y : Rat) : cmpQ y x = - cmpQ x y := by
  unfold cmpQ
  by_cases h1 : x < y
  · have h2 : ¬ y < x := Rat.not_lt.2 (Rat.le_of_lt h1)
    rw [if_pos h1, if_neg h2, if_pos h1]; rfl
  · by_cases h2 : y < x
    · rw [if_pos h2, if_neg h1, if_pos h2]
    · rw [if_neg h2, if_neg h1, if_neg h1, if_neg h2]; rfl
theorem cmpQ_three (x y : Rat) : cmpQ x y = -1 ∨ cmpQ x y = 0 ∨ cmpQ x y = 1 := by
  unfold cmpQ; split
  · exact .inl rfl
  · split
    · exact .inr (.inr rfl)
    · exact .inr (.inl rfl)
theorem cmpQ_zero (x y : Rat) : cmpQ x y = 0 ↔ x = y := by
  unfold cmpQ
  constructor
  · intro h
    by_cases h1 : x < y
    · rw [if_pos h1] at h; cases h
    · rw [if_neg h1] at h
      by_cases h2 : y < x
      · rw [if_pos h2] at h; cases h
      · exact Rat.le_antisymm (Rat.not_lt.1 h2) (Rat.not_lt.1 h1)
  · rintro rfl
    rw [if_neg (Rat.lt_irrefl), if_neg (Rat.lt_irrefl)]
theorem cmpQ_sub (x y : Rat) : cmpQ (x - y) 0 = cmpQ x y := by
  unfold cmpQ
  have e1 : x - y < 0 ↔ x < y := by constructor <;> intro h <;> grind
  have e2 : 0 < x - y ↔ y < x := by constructor <;> intro h <;> grind
  simp only [e1, e2]
/-- ratio.Sign of a fraction that may be -/
theorem sign_q {f : F} (hf : f.ok) (hn : InR f.num) (hd : InR f.den) : (if chk f ≠ 0 then 0 else if f.num.length = 0 then 0 else if f.neg = true then -1 else 1 : Int) = cmpQ f.q 0 := by
  rw [if_neg (fun h => h ((chk_ok hn hd).2 hf))]
  unfold cmpQ
  by_cases h0 : f.num = []
  · have h1 := hf.2.2.2.2.2.2 h0
    have h2 : f.q = 0 := (sign_zero hf).2 h0
    rw [h2, h0]
    rw [if_pos (by rfl), if_neg (Rat.lt_irrefl), if_neg (Rat.lt_irrefl)]
  · have h2 : f.num.length ≠ 0 := fun e => h0 (List.eq_nil_of_length_eq_zero e)
    rw [if_neg h2]
    cases hn : f.neg
    · have h3 : ¬ f.q < 0 := by rw [sign_neg hf, hn]; simp
      rw [if_neg (by simp), if_neg h3, if_pos]
      have h4 : f.q ≠ 0 := fun e => h0 ((sign_zero hf).1 e)
      have h5 := Rat.not_lt.1 h3
      rcases Rat.le_iff_lt_or_eq.1 h5 with h | h
      · exact h
      · exact absurd h.symm h4
    · rw [if_pos rfl, if_pos ((sign_neg hf).2 hn)]
theorem same_q {f k : F} (hf : f.ok) (hk : k.ok) : (f.neg == k.neg && decide (f.num = k.num) && decide (f.den = k.den)) = decide (cmpF f k = 0) := by
  rw [Bool.eq_iff_iff, cmp_q hf hk, decide_eq_true_iff, cmpQ_zero]
  simp only [Bool.and_eq_true, beq_iff_eq, decide_eq_true_eq]
  constructor
  · rintro ⟨⟨h1, h2⟩, h3⟩; unfold F.q; rw [h1, h2, h3]
  · intro h
    have := hf.ext hk h
    subst this
    exact ⟨⟨rfl, rfl⟩, rfl⟩
theorem mk_one (z : Int) : mkRat z 1 = (z : Rat) := by rw [Rat.mkRat_one]
/-- the fraction that Make makes of a floor -/
theorem floor_tell {f : F} (hf : f.ok) (h60 : f.num.length ≤ 60) : tell (mkRat (sg (f.neg != false) (val (words (flo f)))) (val [1])) = (F.of (f.q.floor : Rat), 0) ∧ (words (flo f)).length ≤ 61 := by
  have e1 : (f.neg != false) = f.neg := by cases f.neg <;> rfl
  have e2 : val [1] = 1 := rfl
  have hl : (words (flo f)).length ≤ 61 := by
    refine Nat.le_trans (words_le (b := val f.num + 1) ?_ (words_add_len (n := 60) (by rw [words_val hf.1]; exact h60) (Nat.le_trans (by rw [words_len]; omega : (words 1).length ≤ 1) (by omega)))) (Nat.le_refl _)
    unfold flo
    have := Nat.div_le_self (val f.num) (val f.den)
    split <;> omega
  refine ⟨?_, hl⟩
  rw [e1, e2, val_words, mk_one, ← flo_q hf]
  unfold tell
  rw [if_pos]
  unfold fits
  rw [Rat.num_intCast, Rat.den_intCast]
  have e3 : f.q.floor.natAbs = flo f := by rw [flo_q hf, sg_natAbs]
  rw [e3]
  refine ⟨by omega, ?_⟩
  have : (words 1).length ≤ 1 := by rw [words_len]; omega
  omega
theorem floor_cmp {f : F} (hf : f.ok) (hg : (F.of (f.q.floor : Rat)).ok) : cmpF (F.of (f.q.floor : Rat)) f ≤ 0 := by
  rw [cmp_q hg hf, F.q_of]
  unfold cmpQ
  have h := Rat.floor_le f.q
  split
  · omega
  · rw [if_neg (Rat.not_lt.2 h)]; omega
theorem next_cmp {f n : F} (hf : f.ok) (hn : n.ok) (e : n.q = (f.q.floor : Rat) + 1) : cmpF f n < 0 := by
  rw [cmp_q hf hn, e]
  unfold cmpQ
  have h := Rat.lt_floor_add_one f.q
  rw [Rat.intCast_add] at h
  rw [if_pos (by simpa using h)]
  omega
theorem wchk_floor (f : F) (hf : f.ok) (hl : (words (flo f)).length ≤ 61) : wchk f.neg (words (flo f)) = 0 := by
  unfold wchk
  rw [if_neg (by omega)]
  rw [if_neg, if_neg]
  · rintro ⟨h1, h2⟩
    have h3 := words_eq_nil.1 (List.eq_nil_of_length_eq_zero h1)
    have h4 : f.num ≠ [] := fun e => by have := hf.2.2.2.2.2.2 e; rw [h2] at this; cases this
    have h5 := hf.1.val_pos h4
    unfold flo at h3
    rw [h2] at h3
    by_cases h6 : val f.num % val f.den = 0
    · have h7 : val f.num / val f.den = 0 := Nat.eq_zero_of_add_eq_zero_right h3
      have h8 := Nat.div_add_mod (val f.num) (val f.den)
      rw [h6, h7] at h8
      simp at h8
      omega
    · rw [if_pos ⟨rfl, h6⟩] at h3
      exact absurd (Nat.eq_zero_of_add_eq_zero_left h3) (by omega)
  · rintro ⟨h1, h2⟩
    have := (words_norm (flo f)).2
    rw [last_getD h1] at this
    exact this (by rw [h2])
end Go.Proofs.YtbjclfmplndkcaaGreatDoor
