/-
  PACKAGE nat, ELEVENTH PART: what a long division leans on (no walk but the count of leading noughts).
-/
import Derived.Test.YtbjclfmplndkcaaGreatDoorNj
import Derived.Test.YtbjclfmplndkcaaGreatDoorShB
import Derived.Lib.ItoaNum
set_option linter.unusedVariables false
set_option linter.unusedSimpArgs false
set_option linter.unnecessarySimpa false
namespace Go.Proofs.YtbjclfmplndkcaaGreatDoor
open Go.RowKit Pl

/-- The shift by which the first word becomes great. -/
theorem lz_any (t : Nat) (w : World) (h0 : 0 < t) (h1 : t < 4294967296) :
    Calls Tryz.prog 54 #[.int .u32 t] w fun e w' => ∃ n bl : Nat, e = .returned (.int .i64 n) ∧ n + bl = 32 ∧ 1 ≤ bl ∧ 2 ^ (bl - 1) ≤ t ∧ t < 2 ^ bl ∧ w = w' := by
  refine (Tryz.bits_LeadingZeros32 (t : Int) w (by omega) (by omega)).mono ?_
  rintro e w' ⟨rfl, rfl⟩
  rw [Int.toNat_natCast]
  have hb := Lib.bitLenAux_bounds 64 t (by omega) (by omega)
  have he : Lib.bitLen t = Lib.bitLenAux 64 t := rfl
  rw [← he] at hb
  obtain ⟨b1, b2, b3⟩ := hb
  have hle : Lib.bitLen t ≤ 32 := by
    refine Nat.le_of_not_lt fun hh => ?_
    have := Nat.pow_le_pow_right (n := 2) (by omega) (show 32 ≤ Lib.bitLen t - 1 by omega)
    omega
  exact ⟨32 - Lib.bitLen t, Lib.bitLen t, by congr 2; omega, by omega, b1, b2, b3, rfl⟩

theorem top_bounds (m : List Int) (k : Nat) (hm : InR m) (hk : m.length = k + 1) :
    (m.getD k 0).toNat * 4294967296 ^ k ≤ val m ∧ val m < ((m.getD k 0).toNat + 1) * 4294967296 ^ k := by
  have h1 := take_succ_val m k
  rw [List.take_of_length_le (by omega)] at h1
  have h2 := val_lt (hm.take k)
  rw [List.length_take, Nat.min_eq_left (by omega)] at h2
  rw [Nat.add_mul, Nat.one_mul, h1, Nat.mul_comm]
  omega

theorem norm_up (m : List Int) (k n bl : Nat) (hm : InR m) (hk : m.length = k + 1) (hn : n + bl = 32) (hbl : 1 ≤ bl) (h1 : 2 ^ (bl - 1) ≤ (m.getD k 0).toNat) (h2 : (m.getD k 0).toNat < 2 ^ bl) :
    (words (val m * 2 ^ n)).length = k + 1 ∧ 2147483648 ≤ (words (val m * 2 ^ n)).getD k 0 := by
  obtain ⟨t1, t2⟩ := top_bounds m k hm hk
  generalize (m.getD k 0).toNat = t at *
  have p1 : 2 ^ n * 2 ^ bl = 4294967296 := by rw [← Nat.pow_add, hn]
  have p2 : 2 ^ n * 2 ^ (bl - 1) = 2147483648 := by rw [← Nat.pow_add, show n + (bl - 1) = 31 by omega]
  have a1 : t * 2 ^ n ≥ 2147483648 := by
    have := Nat.mul_le_mul_left (2 ^ n) h1
    rw [p2, Nat.mul_comm] at this; exact this
  have a2 : (t + 1) * 2 ^ n ≤ 4294967296 := by
    have := Nat.mul_le_mul_left (2 ^ n) (show t + 1 ≤ 2 ^ bl from h2)
    rw [p1, Nat.mul_comm] at this; exact this
  have lo : 2147483648 * 4294967296 ^ k ≤ val m * 2 ^ n := by
    have e1 := Nat.mul_le_mul_right (2 ^ n) t1
    have e2 := Nat.mul_le_mul_right (4294967296 ^ k) a1
    have e3 : t * 4294967296 ^ k * 2 ^ n = t * 2 ^ n * 4294967296 ^ k := by rw [Nat.mul_right_comm]
    omega
  have hi : val m * 2 ^ n < 4294967296 ^ (k + 1) := by
    have hp : 0 < 2 ^ n := Nat.pow_pos (by omega)
    have e1 := Nat.mul_lt_mul_of_pos_right t2 hp
    have e2 := Nat.mul_le_mul_right (4294967296 ^ k) a2
    have e3 : (t + 1) * 4294967296 ^ k * 2 ^ n = (t + 1) * 2 ^ n * 4294967296 ^ k := by rw [Nat.mul_right_comm]
    rw [Nat.pow_succ, Nat.mul_comm (4294967296 ^ k)]
    omega
  have hl1 : (words (val m * 2 ^ n)).length ≤ k + 1 := words_len.2 hi
  have hl2 : ¬ (words (val m * 2 ^ n)).length ≤ k := fun hh => by
    have := words_len.1 hh
    have hp : 0 < 4294967296 ^ k := Nat.pow_pos (by omega)
    omega
  have hl : (words (val m * 2 ^ n)).length = k + 1 := by omega
  refine ⟨hl, ?_⟩
  obtain ⟨s1, s2⟩ := top_bounds (words (val m * 2 ^ n)) k (words_inR _) hl
  rw [val_words] at s2
  have h3 : 2147483648 * 4294967296 ^ k < (((words (val m * 2 ^ n)).getD k 0).toNat + 1) * 4294967296 ^ k := by omega
  have h4 := Nat.lt_of_mul_lt_mul_right h3
  have h5 := (words_inR (val m * 2 ^ n)).getD k
  omega

/-- The quotient's words and the rest behind the division of what was shifted. -/
theorem unshift {a b p q r : Nat} (hp : 0 < p) (h : a * p = q * (b * p) + r) (hr : r < b * p) : q = a / b ∧ r / p = a % b := by
  have hb : 0 < b := by
    rcases Nat.eq_zero_or_pos b with e | e
    · subst e; omega
    · exact e
  have hle : q * b ≤ a := by
    refine Nat.le_of_not_lt fun hh => ?_
    have h2 : (a + 1) * p ≤ q * b * p := Nat.mul_le_mul_right p hh
    rw [Nat.add_mul, Nat.mul_assoc] at h2
    omega
  obtain ⟨s, rfl⟩ : ∃ s, a = q * b + s := ⟨a - q * b, by omega⟩
  have hs : s * p = r := by rw [Nat.add_mul, Nat.mul_assoc] at h; omega
  have hsb : s < b := by
    refine Nat.lt_of_mul_lt_mul_right (a := p) ?_
    omega
  refine ⟨?_, ?_⟩
  · rw [Nat.mul_comm, Nat.mul_add_div hb, Nat.div_eq_of_lt hsb, Nat.add_zero]
  · rw [← hs, Nat.mul_div_cancel _ hp, Nat.mul_comm, Nat.mul_add_mod, Nat.mod_eq_of_lt hsb]

/-- The start of the division: the highest words are below the divisor. -/
theorem start_lt (a b : List Int) (U : List Int) (k n lq : Nat) (hb : Norm b) (hk : b.length = k + 1) (hU : U.length = a.length + 1) (ha : InR a) (hv : val U = val a * 2 ^ n) (hlq : lq + (k + 1) = a.length + 1) (hrU : InR U) :
    val (U.drop lq) < val b * 2 ^ n := by
  have h1 := val_take_drop U lq (by omega)
  have h2 := val_lt ha
  have hp : 0 < 2 ^ n := Nat.pow_pos (by omega)
  have h3 : 4294967296 ^ k ≤ val b := by
    have hh := hb.len_le (k := k)
    have : ¬ b.length ≤ k := by omega
    rw [hh] at this; omega
  refine Nat.lt_of_mul_lt_mul_left (a := 4294967296 ^ lq) ?_
  have h4 : val a * 2 ^ n < 4294967296 ^ a.length * 2 ^ n := Nat.mul_lt_mul_of_pos_right h2 hp
  have h5 : 4294967296 ^ a.length = 4294967296 ^ lq * 4294967296 ^ k := by rw [← Nat.pow_add]; congr 1; omega
  have h6 : 4294967296 ^ lq * (4294967296 ^ k * 2 ^ n) ≤ 4294967296 ^ lq * (val b * 2 ^ n) := Nat.mul_le_mul_left _ (Nat.mul_le_mul_right _ h3)
  rw [h5, Nat.mul_assoc] at h4
  omega

/-- One word of the quotient, where the guess was right, or one too much and put back. -/
theorem word_right {p v x b B : Nat} {p' : Nat} (hx1 : p / v ≤ x) (hx2 : x ≤ p / v + 1) (hv : 0 < v) (h : p' + x * v = p + B * b) (hb : b ≤ 1) (hp' : p' < B) (hvB : v < B) :
    (b = 0 → x = p / v ∧ p' = p % v) ∧ (b = 1 → x = p / v + 1) := by
  have hd := Nat.div_add_mod p v
  have hm := Nat.mod_lt p hv
  generalize p / v = d at *
  generalize p % v = r at *
  rw [Nat.mul_comm] at hd
  refine ⟨fun e => ?_, fun e => ?_⟩
  · subst e
    rcases Nat.lt_or_ge d x with hh | hh
    · have : x = d + 1 := by omega
      subst this
      rw [Nat.add_mul] at h; omega
    · have : x = d := by omega
      subst this
      exact ⟨rfl, by omega⟩
  · subst e
    rcases Nat.lt_or_ge d x with hh | hh
    · omega
    · have : x = d := by omega
      subst this
      omega
theorem word_back {p v B p' p'' s : Nat} (hv : 0 < v) (h : p' + (p / v + 1) * v = p + B * 1) (hs : p'' + B * s = p' + v) (hp'' : p'' < B) (hvB : v ≤ B) : p'' = p % v := by
  have hd := Nat.div_add_mod p v
  have hm := Nat.mod_lt p hv
  generalize p / v = d at *
  generalize p % v = r at *
  rw [Nat.mul_comm] at hd
  rw [Nat.add_mul] at h
  have h2 : p'' + B * s = r + B := by omega
  rcases Nat.lt_or_ge s 2 with hh | hh
  · rcases Nat.eq_zero_or_pos s with e | e
    · subst e; omega
    · have : s = 1 := by omega
      subst this; omega
  · have := Nat.mul_le_mul_left B hh
    omega
end Go.Proofs.YtbjclfmplndkcaaGreatDoor
