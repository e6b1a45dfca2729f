/-
  PLAIN: what nat.Parse takes of a text.
-/
import Derived.Test.YtbjclfmplndkcaaGreatDoorPl
import Derived.Lib.ParseIntB
import Derived.Lib.SlTrimSet
set_option linter.unusedVariables false
set_option linter.unusedSimpArgs false
set_option linter.unnecessarySimpa false
namespace Go.Proofs.YtbjclfmplndkcaaGreatDoor
open Pl

def tenDigits : List UInt8 := [48, 49, 50, 51, 52, 53, 54, 55, 56, 57]
theorem ten_contains (c : UInt8) : tenDigits.contains c = digit c := by
  unfold digit tenDigits
  rw [Bool.eq_iff_iff]
  simp only [List.contains_eq_mem, List.mem_cons, List.not_mem_nil, or_false, decide_eq_true_eq, Bool.and_eq_true, UInt8.le_iff_toNat_le, ← UInt8.toNat_inj]
  simp only [UInt8.reduceToNat]
  omega
theorem dw_nil {α : Type} (p : α → Bool) (l : List α) : l.dropWhile p = [] ↔ ∀ x ∈ l, p x = true := by
  induction l with
  | nil => simp
  | cons a l ih =>
    by_cases h : p a = true
    · rw [List.dropWhile_cons_of_pos h, ih]; simp [h]
    · rw [List.dropWhile_cons_of_neg h]; simp [h]
theorem dw_head {α : Type} (p : α → Bool) (l : List α) (a : α) (r : List α) (h : l.dropWhile p = a :: r) : p a = false := by
  induction l with
  | nil => simp at h
  | cons b l ih =>
    by_cases hb : p b = true
    · rw [List.dropWhile_cons_of_pos hb] at h; exact ih h
    · rw [List.dropWhile_cons_of_neg hb] at h; injection h with h1 _; subst h1; simpa using hb
theorem trim_nil (l : List UInt8) : Lib.trimS l tenDigits = [] ↔ l.all digit = true := by
  have e : (fun c => tenDigits.contains c) = digit := by funext c; exact ten_contains c
  unfold Lib.trimS Lib.trimLeftS Lib.trimRightS
  simp only [ten_contains]
  constructor
  · intro h
    rw [dw_nil] at h
    have h2 : ∀ x ∈ l.reverse.dropWhile digit, digit x = true := fun x hx => h x (by simpa using hx)
    have h3 : l.reverse.dropWhile digit = [] := by
      cases hd : l.reverse.dropWhile digit with
      | nil => rfl
      | cons a r =>
        have h4 := dw_head digit l.reverse a r hd
        have h5 : digit a = true := h2 a (by rw [hd]; simp)
        rw [h5] at h4; cases h4
    rw [dw_nil] at h3
    rw [List.all_eq_true]
    exact fun x hx => h3 x (by simpa using hx)
  · intro h
    rw [List.all_eq_true] at h
    have h3 : l.reverse.dropWhile digit = [] := by
      rw [dw_nil]; exact fun x hx => h x (by simpa using hx)
    rw [h3]; rfl
theorem undec_lt (l : List UInt8) (h : l.all digit = true) : undec l < 10 ^ l.length := by
  have key : ∀ (k : Nat) (l : List UInt8), l.length = k → l.all digit = true → undec l < 10 ^ k := by
    intro k
    induction k with
    | zero =>
      intro l hl _
      have := List.eq_nil_of_length_eq_zero hl
      subst this; simp [undec]
    | succ k ih =>
      intro l hl hd
      have hne : l ≠ [] := by intro e; subst e; simp at hl
      have e := List.dropLast_concat_getLast hne
      generalize l.dropLast = m at e
      generalize l.getLast hne = c at e
      subst e
      have hml : m.length = k := by simp at hl; omega
      rw [List.all_append, Bool.and_eq_true] at hd
      have h1 := ih m hml hd.1
      have hc : digit c = true := by simpa using hd.2
      simp [digit, UInt8.le_iff_toNat_le] at hc
      rw [undec_append, Nat.pow_succ]
      have e2 : undec [c] = c.toNat - 48 := by simp [undec]
      rw [e2]
      simp only [List.length_singleton, Nat.pow_one]
      omega
  exact key l.length l rfl h
theorem parseM (l : List UInt8) (acc k : Nat) (h : l.all digit = true) (hk : acc < 10 ^ k) (hl : k + l.length ≤ 9) :
    Lib.parseUintM (2 ^ 32 - 1) acc l = .ok (l.foldl (fun a c => a * 10 + (c.toNat - 48)) acc) := by
  induction l generalizing acc k with
  | nil => rfl
  | cons c l ih =>
    simp only [List.all_cons, Bool.and_eq_true] at h
    have hc := h.1
    simp [digit, UInt8.le_iff_toNat_le] at hc
    simp only [List.length_cons] at hl
    have hp : acc * 10 + (c.toNat - 48) < 10 ^ (k + 1) := by rw [Nat.pow_succ]; omega
    have hp2 : 10 ^ (k + 1) ≤ 10 ^ 9 := Nat.pow_le_pow_right (by omega) (by omega)
    have hp3 : 10 ^ k ≤ 10 ^ 9 := Nat.pow_le_pow_right (by omega) (by omega)
    unfold Lib.parseUintM
    rw [if_pos hc, if_neg (by omega), if_neg (by omega)]
    rw [List.foldl_cons]
    exact ih _ (k + 1) h.2 hp (by omega)
theorem parse_chunk (l : List UInt8) (h : l.all digit = true) (h0 : l ≠ []) (hl : l.length ≤ 9) : Lib.parseUintB 32 l = .ok (undec l) := by
  unfold Lib.parseUintB
  rw [if_neg h0]
  exact parseM l 0 0 h (by simp) (by omega)
theorem all_take {l : List UInt8} (h : l.all digit = true) (k : Nat) : (l.take k).all digit = true := by
  rw [List.all_eq_true] at *; exact fun x hx => h x (List.mem_of_mem_take hx)
theorem all_drop {l : List UInt8} (h : l.all digit = true) (k : Nat) : (l.drop k).all digit = true := by
  rw [List.all_eq_true] at *; exact fun x hx => h x (List.mem_of_mem_drop hx)
/-- what Parse's loop keeps, one round on -/
theorem undec_round (l : List UInt8) (k n : Nat) (hk : k + n ≤ l.length) (h9 : k = 0 ∨ n = 9) : undec (l.take (k + n)) = undec (l.take k) * 1000000000 + undec ((l.drop k).take n) := by
  rw [List.take_add, undec_append]
  rcases h9 with rfl | rfl
  · simp [undec]
  · rw [List.length_take, List.length_drop, Nat.min_eq_left (by omega)]
/-- nat.Parse -/
def parseN (l : List UInt8) : List Int × Int := if 65536 < l.length then ([], 3) else if numeral l = true then (words (undec l), 0) else ([], 110)
theorem undec_pow (l : List UInt8) (h : l.all digit = true) {N M : Nat} (hM : N ≤ 8 * M) (hl : l.length ≤ N) : undec l < 4294967296 ^ M := by
  have h1 := undec_lt l h
  have h2 : 10 ^ l.length ≤ 16 ^ l.length := Nat.pow_le_pow_left (by omega) _
  have h3 : 16 ^ l.length ≤ 16 ^ (8 * M) := Nat.pow_le_pow_right (by omega) (by omega)
  rw [Nat.pow_mul] at h3
  exact Nat.lt_of_lt_of_le h1 (Nat.le_trans h2 h3)
set_option exponentiation.threshold 100000 in
theorem undec_words (l : List UInt8) (h : l.all digit = true) (hl : l.length ≤ 65536) : (words (undec l)).length ≤ 8192 := by
  rw [words_len]
  exact undec_pow l h (by omega) hl
end Go.Proofs.YtbjclfmplndkcaaGreatDoor
