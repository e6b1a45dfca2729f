/-
  PLAIN LAWS: words of 32 bits against natural numbers, one round each of the loops of arithmetic, Knuth's guess, fractions against Rat, decimals. No program in sight.
-/
import Derived.KernelRfl
set_option linter.unusedVariables false
set_option linter.unusedSimpArgs false
set_option linter.unnecessarySimpa false
namespace Go.Proofs.YtolbafckppafkaaGreatDoor
namespace Pl

/-- the number that words say -/
def val : List Int → Nat
  | [] => 0
  | x :: xs => x.toNat + 4294967296 * val xs

def InR (l : List Int) : Prop := ∀ x ∈ l, 0 ≤ x ∧ x < 4294967296

/-- in range, and no nought at the end -/
def Norm (l : List Int) : Prop := InR l ∧ l.getLast? ≠ some 0

def wordsF : Nat → Nat → List Int
  | 0, _ => []
  | f + 1, n => if n = 0 then [] else ((n % 4294967296 : Nat) : Int) :: wordsF f (n / 4294967296)

def words (n : Nat) : List Int := wordsF (n.log2 / 32 + 1) n

theorem InR.nil : InR [] := by intro x hx; simp at hx
theorem InR.cons {x : Int} {l : List Int} (h0 : 0 ≤ x) (h1 : x < 4294967296) (h : InR l) : InR (x :: l) := by
  intro y hy
  rcases List.mem_cons.1 hy with rfl | hy
  · exact ⟨h0, h1⟩
  · exact h y hy
theorem InR.of_cons {x : Int} {l : List Int} (h : InR (x :: l)) : (0 ≤ x ∧ x < 4294967296) ∧ InR l :=
  ⟨h x (by simp), fun y hy => h y (by simp [hy])⟩
theorem InR.append {a b : List Int} (ha : InR a) (hb : InR b) : InR (a ++ b) := by
  intro x hx
  rcases List.mem_append.1 hx with hx | hx
  · exact ha x hx
  · exact hb x hx
theorem InR.left {a b : List Int} (h : InR (a ++ b)) : InR a := fun x hx => h x (by simp [hx])
theorem InR.right {a b : List Int} (h : InR (a ++ b)) : InR b := fun x hx => h x (by simp [hx])
theorem InR.take {a : List Int} (h : InR a) (n : Nat) : InR (a.take n) := fun x hx => h x (List.mem_of_mem_take hx)
theorem InR.drop {a : List Int} (h : InR a) (n : Nat) : InR (a.drop n) := fun x hx => h x (List.mem_of_mem_drop hx)
theorem InR.getD {a : List Int} (h : InR a) (n : Nat) : 0 ≤ a.getD n 0 ∧ a.getD n 0 < 4294967296 := by
  by_cases hn : n < a.length
  · have e : a.getD n 0 = a[n] := by simp [hn]
    rw [e]; exact h _ (List.getElem_mem hn)
  · have e : a.getD n 0 = 0 := by simp [Nat.not_lt.1 hn]
    rw [e]; omega
theorem InR.set {a : List Int} (h : InR a) (n : Nat) {x : Int} (h0 : 0 ≤ x) (h1 : x < 4294967296) : InR (a.set n x) := by
  intro y hy
  rcases List.mem_or_eq_of_mem_set hy with hy | rfl
  · exact h y hy
  · exact ⟨h0, h1⟩
theorem InR.replicate (n : Nat) {x : Int} (h0 : 0 ≤ x) (h1 : x < 4294967296) : InR (List.replicate n x) := by
  intro y hy
  rw [List.eq_of_mem_replicate hy]; exact ⟨h0, h1⟩

theorem val_append (a b : List Int) : val (a ++ b) = val a + 4294967296 ^ a.length * val b := by
  induction a with
  | nil => simp [val]
  | cons x xs ih => simp only [List.cons_append, val, ih, List.length_cons, Nat.pow_succ]; grind

theorem val_lt {a : List Int} (h : InR a) : val a < 4294967296 ^ a.length := by
  induction a with
  | nil => simp [val]
  | cons x xs ih =>
    have := ih h.of_cons.2
    have := h.of_cons.1
    simp only [val, List.length_cons, Nat.pow_succ]
    omega

theorem val_replicate (n : Nat) : val (List.replicate n 0) = 0 := by
  induction n with
  | zero => rfl
  | succ n ih => simp [List.replicate_succ, val, ih]

theorem wordsF_val (f n : Nat) (h : n < 4294967296 ^ f) : val (wordsF f n) = n := by
  induction f generalizing n with
  | zero => simp at h; simp [wordsF, val, h]
  | succ f ih =>
    unfold wordsF
    split
    · simp [val, *]
    · rw [val, ih _ (by rw [Nat.pow_succ] at h; exact Nat.div_lt_of_lt_mul (by rw [Nat.mul_comm]; exact h))]
      have := Nat.div_add_mod n 4294967296
      omega

theorem lt_fuel (n : Nat) : n < 4294967296 ^ (n.log2 / 32 + 1) := by
  have h1 : n < 2 ^ (n.log2 + 1) := Nat.lt_log2_self
  have h2 : (4294967296 : Nat) ^ (n.log2 / 32 + 1) = 2 ^ (32 * (n.log2 / 32 + 1)) := by rw [Nat.pow_mul]
  rw [h2]
  exact Nat.lt_of_lt_of_le h1 (Nat.pow_le_pow_right (by omega) (by omega))

theorem val_words (n : Nat) : val (words n) = n := wordsF_val _ _ (lt_fuel n)

theorem wordsF_inR (f n : Nat) : InR (wordsF f n) := by
  induction f generalizing n with
  | zero => exact InR.nil
  | succ f ih =>
    unfold wordsF
    split
    · exact InR.nil
    · exact InR.cons (by omega) (by omega) (ih _)
theorem words_inR (n : Nat) : InR (words n) := wordsF_inR _ _

theorem wordsF_norm (f n : Nat) (h : n < 4294967296 ^ f) : Norm (wordsF f n) := by
  refine ⟨wordsF_inR f n, ?_⟩
  induction f generalizing n with
  | zero => simp [wordsF]
  | succ f ih =>
    unfold wordsF
    split
    · simp
    · rename_i h0
      have hd : n / 4294967296 < 4294967296 ^ f := by rw [Nat.pow_succ] at h; exact Nat.div_lt_of_lt_mul (by rw [Nat.mul_comm]; exact h)
      have := ih _ hd
      by_cases e : wordsF f (n / 4294967296) = []
      · have hv := wordsF_val f _ hd
        rw [e, val] at hv
        rw [e]; simp; omega
      · rw [List.getLast?_cons_of_ne_nil e] <;> exact this
theorem words_norm (n : Nat) : Norm (words n) := wordsF_norm _ _ (lt_fuel n)

theorem Norm.of_cons {x : Int} {l : List Int} (h : Norm (x :: l)) : Norm l := by
  refine ⟨h.1.of_cons.2, ?_⟩
  by_cases e : l = []
  · subst e; simp
  · have := h.2; rwa [List.getLast?_cons_of_ne_nil e] at this

theorem Norm.val_pos {l : List Int} (h : Norm l) (hl : l ≠ []) : 0 < val l := by
  induction l with
  | nil => exact absurd rfl hl
  | cons x xs ih =>
    by_cases e : xs = []
    · subst e
      have h2 := h.2
      have h1 := h.1.of_cons.1
      simp at h2
      simp only [val]; omega
    · have := ih h.of_cons e
      simp only [val]; omega

theorem norm_ext {a b : List Int} (ha : Norm a) (hb : Norm b) (h : val a = val b) : a = b := by
  induction a generalizing b with
  | nil =>
    by_cases e : b = []
    · exact e.symm
    · have := hb.val_pos e; simp [val] at h; omega
  | cons x xs ih =>
    cases b with
    | nil => have := ha.val_pos (by simp); simp [val] at h this; omega
    | cons y ys =>
      have h1 := ha.1.of_cons.1
      have h2 := hb.1.of_cons.1
      simp only [val] at h
      have e1 : x = y := by omega
      have e2 : val xs = val ys := by omega
      rw [e1, ih ha.of_cons hb.of_cons e2]

theorem words_val {l : List Int} (h : Norm l) : words (val l) = l := norm_ext (words_norm _) h (val_words _)
theorem words_zero : words 0 = [] := rfl
theorem words_eq_nil {n : Nat} : words n = [] ↔ n = 0 := by
  constructor
  · intro h; have := val_words n; rw [h] at this; simpa [val] using this.symm
  · rintro rfl; rfl

theorem Norm.len_le {l : List Int} (h : Norm l) {k : Nat} : l.length ≤ k ↔ val l < 4294967296 ^ k := by
  constructor
  · intro hk; exact Nat.lt_of_lt_of_le (val_lt h.1) (Nat.pow_le_pow_right (by omega) hk)
  · intro hv
    refine Nat.not_lt.1 fun hk => ?_
    have hne : l ≠ [] := by intro e; subst e; simp at hk
    have hl : l = l.dropLast ++ [l.getLast hne] := (List.dropLast_concat_getLast hne).symm
    have hx := h.1 _ (List.getLast_mem hne)
    have hx0 : l.getLast hne ≠ 0 := by intro e; exact h.2 (by rw [List.getLast?_eq_some_getLast hne, e])
    have hv' : val l = val l.dropLast + 4294967296 ^ l.dropLast.length * (l.getLast hne).toNat := by
      conv => lhs; rw [hl]
      rw [val_append]; simp [val]
    have h1 : 4294967296 ^ k ≤ 4294967296 ^ l.dropLast.length := Nat.pow_le_pow_right (by omega) (by simp; omega)
    have h2 : 4294967296 ^ l.dropLast.length * 1 ≤ 4294967296 ^ l.dropLast.length * (l.getLast hne).toNat := Nat.mul_le_mul_left _ (by omega)
    omega
theorem words_len {n k : Nat} : (words n).length ≤ k ↔ n < 4294967296 ^ k := by
  rw [(words_norm n).len_le, val_words]

theorem val_take_drop (l : List Int) (k : Nat) (hk : k ≤ l.length) : val l = val (l.take k) + 4294967296 ^ k * val (l.drop k) := by
  conv => lhs; rw [← List.take_append_drop k l]
  rw [val_append, List.length_take, Nat.min_eq_left hk]

/-- what is left of a list without noughts at its end -/
def cut : List Int → List Int
  | [] => []
  | x :: xs => let r := cut xs; if r = [] ∧ x = 0 then [] else x :: r

theorem cut_val (l : List Int) : val (cut l) = val l := by
  induction l with
  | nil => rfl
  | cons x xs ih =>
    unfold cut
    simp only
    split
    · rename_i h; rw [h.1] at ih; simp [val, ← ih, h.2]
    · simp [val, ih]
theorem cut_inR {l : List Int} (h : InR l) : InR (cut l) := by
  induction l with
  | nil => exact h
  | cons x xs ih =>
    unfold cut
    simp only
    split
    · exact InR.nil
    · exact InR.cons h.of_cons.1.1 h.of_cons.1.2 (ih h.of_cons.2)
theorem cut_norm {l : List Int} (h : InR l) : Norm (cut l) := by
  refine ⟨cut_inR h, ?_⟩
  induction l with
  | nil => simp [cut]
  | cons x xs ih =>
    have := ih h.of_cons.2
    unfold cut
    simp only
    split
    · simp
    · rename_i hn
      by_cases e : cut xs = []
      · rw [e]; simp; intro hx; exact hn ⟨e, hx⟩
      · rw [List.getLast?_cons_of_ne_nil e]; exact this
theorem cut_words {l : List Int} (h : InR l) : cut l = words (val l) := norm_ext (cut_norm h) (words_norm _) (by rw [cut_val, val_words])

end Pl
namespace Pl

theorem take_succ_val (a : List Int) (i : Nat) : val (a.take (i + 1)) = val (a.take i) + 4294967296 ^ i * (a.getD i 0).toNat := by
  by_cases h : i < a.length
  · rw [List.take_succ_eq_append_getElem h, val_append, List.length_take, Nat.min_eq_left (by omega)]
    have e : a.getD i 0 = a[i] := by simp [h]
    rw [e]; simp [val]
  · rw [List.take_of_length_le (by omega), List.take_of_length_le (by omega)]
    have e : a.getD i 0 = 0 := by simp [Nat.not_lt.1 h]
    rw [e]; simp
theorem take_set_val (a : List Int) (i : Nat) (x : Int) (h : i < a.length) : val ((a.set i x).take (i + 1)) = val (a.take i) + 4294967296 ^ i * x.toNat := by
  rw [take_succ_val]
  have e : (a.set i x).getD i 0 = x := by simp [h]
  rw [e, List.take_set_of_le (by omega)]
theorem drop_val (a : List Int) (i : Nat) (h : i < a.length) : val (a.drop i) = (a.getD i 0).toNat + 4294967296 * val (a.drop (i + 1)) := by
  rw [List.drop_eq_getElem_cons h]
  have e : a.getD i 0 = a[i] := by simp [h]
  rw [e]; rfl
theorem val_le_of_take (a : List Int) (i : Nat) (h : a.length ≤ i) : val (a.take i) = val a := by rw [List.take_of_length_le h]
theorem getD_set (a : List Int) (i j : Nat) (x : Int) : (a.set i x).getD j 0 = if i = j ∧ i < a.length then x else a.getD j 0 := by
  by_cases h : i = j
  · subst h
    by_cases h2 : i < a.length
    · simp [h2]
    · simp [h2]
  · simp [h, List.getElem?_set_ne h]

/-- one round of an addition -/
theorem add_step (a b out : List Int) (i c s : Nat) (hi : i < out.length)
    (h : val (out.take i) + 4294967296 ^ i * c = val (a.take i) + val (b.take i)) (hs : s = c + (a.getD i 0).toNat + (b.getD i 0).toNat) :
    val ((out.set i ((s % 4294967296 : Nat) : Int)).take (i + 1)) + 4294967296 ^ (i + 1) * (s / 4294967296) = val (a.take (i + 1)) + val (b.take (i + 1)) := by
  rw [take_set_val _ _ _ hi, take_succ_val, take_succ_val, Nat.pow_succ]
  have e : ((s % 4294967296 : Nat) : Int).toNat = s % 4294967296 := by omega
  rw [e]
  have h2 : s = 4294967296 * (s / 4294967296) + s % 4294967296 := (Nat.div_add_mod s 4294967296).symm
  have h3 : 4294967296 ^ i * s = 4294967296 ^ i * (4294967296 * (s / 4294967296) + s % 4294967296) := by rw [← h2]
  rw [hs] at h3
  rw [← hs] at h3
  have h4 : 4294967296 ^ i * s = 4294967296 ^ i * c + 4294967296 ^ i * (a.getD i 0).toNat + 4294967296 ^ i * (b.getD i 0).toNat := by rw [hs]; grind
  grind

/-- one round of a difference: u less q times v; c: what is carried, b: what is borrowed -/
theorem off_step (u v out : List Int) (i q c b lo d : Nat) (b' : Nat) (hi : i < out.length)
    (h : val (out.take i) + q * val (v.take i) = val (u.take i) + 4294967296 ^ i * (c + b))
    (hlo : lo = (c + q * (v.getD i 0).toNat) % 4294967296) (hd : d + lo + b = (u.getD i 0).toNat + 4294967296 * b') :
    val ((out.set i (d : Int)).take (i + 1)) + q * val (v.take (i + 1)) = val (u.take (i + 1)) + 4294967296 ^ (i + 1) * ((c + q * (v.getD i 0).toNat) / 4294967296 + b') := by
  rw [take_set_val _ _ _ hi, take_succ_val, take_succ_val, Nat.pow_succ]
  have e : ((d : Nat) : Int).toNat = d := by omega
  rw [e]
  generalize ht : c + q * (v.getD i 0).toNat = t at *
  have h2 : t = 4294967296 * (t / 4294967296) + lo := by rw [hlo]; exact (Nat.div_add_mod t 4294967296).symm
  have h3 : 4294967296 ^ i * t = 4294967296 ^ i * (4294967296 * (t / 4294967296) + lo) := by rw [← h2]
  have h4 : 4294967296 ^ i * t = 4294967296 ^ i * c + 4294967296 ^ i * (q * (v.getD i 0).toNat) := by rw [← ht]; grind
  have h5 : 4294967296 ^ i * (d + lo + b) = 4294967296 ^ i * ((u.getD i 0).toNat + 4294967296 * b') := by rw [hd]
  grind

/-- one round of a product's row: x times b put onto out from place i on; k: the place in b -/
theorem mul_step (b out was : List Int) (i k x c s : Nat) (hi : i + k < out.length)
    (h : val (out.take (i + k)) + 4294967296 ^ (i + k) * c = val (was.take (i + k)) + 4294967296 ^ i * (x * val (b.take k)))
    (hs : s = c + x * (b.getD k 0).toNat + (was.getD (i + k) 0).toNat) :
    val ((out.set (i + k) ((s % 4294967296 : Nat) : Int)).take (i + k + 1)) + 4294967296 ^ (i + k + 1) * (s / 4294967296) = val (was.take (i + k + 1)) + 4294967296 ^ i * (x * val (b.take (k + 1))) := by
  rw [take_set_val _ _ _ hi, take_succ_val, take_succ_val b, Nat.pow_succ 4294967296 (i + k)]
  have e : ((s % 4294967296 : Nat) : Int).toNat = s % 4294967296 := by omega
  rw [e]
  have h2 : s = 4294967296 * (s / 4294967296) + s % 4294967296 := (Nat.div_add_mod s 4294967296).symm
  have h3 : 4294967296 ^ (i + k) * s = 4294967296 ^ (i + k) * (4294967296 * (s / 4294967296) + s % 4294967296) := by rw [← h2]
  have h4 : 4294967296 ^ (i + k) * s = 4294967296 ^ (i + k) * c + 4294967296 ^ (i + k) * (x * (b.getD k 0).toNat) + 4294967296 ^ (i + k) * (was.getD (i + k) 0).toNat := by rw [hs]; grind
  have h5 : 4294967296 ^ (i + k) * (x * (b.getD k 0).toNat) = 4294967296 ^ i * (x * (4294967296 ^ k * (b.getD k 0).toNat)) := by rw [Nat.pow_add]; grind
  have h6 : 4294967296 ^ i * (x * (val (b.take k) + 4294967296 ^ k * (b.getD k 0).toNat)) = 4294967296 ^ i * (x * val (b.take k)) + 4294967296 ^ i * (x * (4294967296 ^ k * (b.getD k 0).toNat)) := by grind
  grind

/-- one round of a quotient by one word, from the top down -/
theorem small_step (a out : List Int) (i d r : Nat) (hd : 0 < d) (hi : i < a.length) (hl : out.length = a.length)
    (h : val (out.drop (i + 1)) * d + r = val (a.drop (i + 1))) (hr : r < d) (hx : (a.getD i 0).toNat < 4294967296) :
    val ((out.set i (((r * 4294967296 + (a.getD i 0).toNat) / d : Nat) : Int)).drop i) * d + (r * 4294967296 + (a.getD i 0).toNat) % d = val (a.drop i) := by
  rw [drop_val _ _ (by simp; omega), drop_val a i hi]
  have e : (out.set i (((r * 4294967296 + (a.getD i 0).toNat) / d : Nat) : Int)).getD i 0 = (((r * 4294967296 + (a.getD i 0).toNat) / d : Nat) : Int) := by rw [getD_set, if_pos ⟨rfl, by omega⟩]
  rw [e, List.drop_set_of_lt (by omega), ← h]
  have := Nat.div_add_mod (r * 4294967296 + (a.getD i 0).toNat) d
  have e2 : (((r * 4294967296 + (a.getD i 0).toNat) / d : Nat) : Int).toNat = (r * 4294967296 + (a.getD i 0).toNat) / d := Int.toNat_natCast _
  rw [e2]
  generalize (r * 4294967296 + (a.getD i 0).toNat) / d = qq at *
  generalize (r * 4294967296 + (a.getD i 0).toNat) % d = rr at *
  grind
theorem small_lt {r x d : Nat} (hd : 0 < d) (hr : r < d) (hx : x < 4294967296) : (r * 4294967296 + x) / d < 4294967296 := by
  rw [Nat.div_lt_iff_lt_mul hd]
  have : (r + 1) * 4294967296 ≤ d * 4294967296 := Nat.mul_le_mul_right _ hr
  rw [Nat.mul_comm 4294967296 d]
  omega

/-- one round of a shift up by less than a word -/
theorem up_step (a out : List Int) (i p x : Nat) (hi : i + 1 < out.length)
    (h : val (out.take (i + 1)) = val (a.take i) * p) (hx : x = (a.getD i 0).toNat * p) :
    val (((out.set i (((out.getD i 0).toNat + x % 4294967296 : Nat) : Int)).set (i + 1) ((x / 4294967296 : Nat) : Int)).take (i + 1 + 1)) = val (a.take (i + 1)) * p := by
  rw [take_set_val _ _ _ (by simp; omega), take_set_val _ _ _ (by omega), take_succ_val a, Nat.pow_succ]
  rw [take_succ_val] at h
  have e1 : (((out.getD i 0).toNat + x % 4294967296 : Nat) : Int).toNat = (out.getD i 0).toNat + x % 4294967296 := by omega
  have e2 : (((x / 4294967296 : Nat)) : Int).toNat = x / 4294967296 := by omega
  rw [e1, e2]
  have h2 : x = 4294967296 * (x / 4294967296) + x % 4294967296 := (Nat.div_add_mod x 4294967296).symm
  have h3 : 4294967296 ^ i * x = 4294967296 ^ i * (4294967296 * (x / 4294967296) + x % 4294967296) := by rw [← h2]
  have h4 : 4294967296 ^ i * x = 4294967296 ^ i * ((a.getD i 0).toNat * p) := by rw [hx]
  grind

/-- one round of a shift down by less than a word, in place -/
theorem down_step (a out : List Int) (i p : Nat) (hp : 0 < p) (hpB : p ∣ 4294967296) (hi : i < out.length)
    (h : val (a.take i) + 4294967296 ^ i * ((a.getD i 0).toNat % p) = val (out.take i) * p + (a.getD 0 0).toNat % p)
    (x : Nat) (hx : x = ((a.getD i 0).toNat + 4294967296 * (a.getD (i + 1) 0).toNat) / p % 4294967296) (hr : (a.getD i 0).toNat < 4294967296) :
    val (a.take (i + 1)) + 4294967296 ^ (i + 1) * ((a.getD (i + 1) 0).toNat % p) = val ((out.set i (x : Int)).take (i + 1)) * p + (a.getD 0 0).toNat % p := by
  rw [take_set_val _ _ _ hi, take_succ_val a, Nat.pow_succ]
  have e1 : ((x : Nat) : Int).toNat = x := by omega
  rw [e1]
  generalize (a.getD i 0).toNat = y at *
  generalize (a.getD (i + 1) 0).toNat = z at *
  generalize (a.getD 0 0).toNat = y0 at *
  have key : x * p + y % p = y + 4294967296 * (z % p) := by
    obtain ⟨m, hm⟩ := hpB
    have hm0 : 0 < m := by
      rcases Nat.eq_zero_or_pos m with e | e
      · subst e; omega
      · exact e
    -- x = (y / p + m * z) % 4294967296
    have e2 : (y + 4294967296 * z) / p = y / p + m * z := by
      have : y + 4294967296 * z = y + p * (m * z) := by rw [hm]; grind
      rw [this, Nat.add_mul_div_left _ _ hp]
    rw [e2] at hx
    have hyp : y / p < m := by
      rw [Nat.div_lt_iff_lt_mul hp, Nat.mul_comm, ← hm]; exact hr
    have e3 : y / p + m * z = (y / p + m * (z % p)) + 4294967296 * (z / p) := by
      have := Nat.div_add_mod z p
      have e4 : m * z = m * (p * (z / p) + z % p) := by rw [this]
      rw [e4, hm]; grind
    have hlt : y / p + m * (z % p) < 4294967296 := by
      have h1 : m * (z % p + 1) ≤ m * p := Nat.mul_le_mul_left _ (Nat.mod_lt _ hp)
      have h2 : m * (z % p + 1) = m * (z % p) + m := by grind
      rw [hm, Nat.mul_comm p m]; omega
    rw [e3, Nat.add_mul_mod_self_left, Nat.mod_eq_of_lt hlt] at hx
    rw [hx, hm]
    have := Nat.div_add_mod y p
    grind
  have k2 : 4294967296 ^ i * (x * p + y % p) = 4294967296 ^ i * (y + 4294967296 * (z % p)) := by rw [key]
  grind
end Pl
namespace Pl
section
variable {B P v1 v0 vr u2 u1 u0 ur q r : Nat}

theorem top_le (hvr : vr < P)
    (hu : ((u2 * B + u1) * B + u0) * P + ur < ((v1 * B + v0) * P + vr) * B) : u2 * B + u1 ≤ v1 * B + v0 := by
  refine Nat.not_lt.1 fun h => ?_
  have h1 : (v1 * B + v0 + 1) * (B * P) ≤ (u2 * B + u1) * (B * P) := Nat.mul_le_mul_right _ h
  have h2 : ((v1 * B + v0) * P + vr) * B ≤ (v1 * B + v0 + 1) * (B * P) := by
    have : (v1 * B + v0) * P + vr ≤ (v1 * B + v0 + 1) * P := by rw [Nat.add_mul _ 1]; omega
    calc ((v1 * B + v0) * P + vr) * B ≤ ((v1 * B + v0 + 1) * P) * B := Nat.mul_le_mul_right _ this
      _ = _ := by grind
  have h3 : (u2 * B + u1) * (B * P) ≤ ((u2 * B + u1) * B + u0) * P + ur := by
    have : ((u2 * B + u1) * B + u0) * P = (u2 * B + u1) * (B * P) + u0 * P := by grind
    omega
  omega

theorem guess_step (hP : 0 < P) (hur : ur < P) (hq : q * v1 + r = u2 * B + u1) (hg : r * B + u0 < q * v0) :
    (((u2 * B + u1) * B + u0) * P + ur) / ((v1 * B + v0) * P + vr) < q := by
  refine Nat.not_le.1 fun h => ?_
  have hv : 0 < (v1 * B + v0) * P + vr := by
    have : 0 < v0 := by
      rcases Nat.eq_zero_or_pos v0 with e | e
      · rw [e] at hg; omega
      · exact e
    have : 0 < (v1 * B + v0) * P := Nat.mul_pos (by omega) hP
    omega
  have h1 : q * ((v1 * B + v0) * P + vr) ≤ ((u2 * B + u1) * B + u0) * P + ur := (Nat.le_div_iff_mul_le hv).1 h
  have h2 : (q * v1 * B + q * v0) * P ≤ q * ((v1 * B + v0) * P + vr) := by
    have : q * ((v1 * B + v0) * P + vr) = (q * v1 * B + q * v0) * P + q * vr := by grind
    omega
  have h3 : ((u2 * B + u1) * B + u0) * P + ur < (q * v1 * B + r * B + u0 + 1) * P := by
    rw [← hq]
    have : (q * v1 * B + r * B + u0 + 1) * P = ((q * v1 + r) * B + u0) * P + P := by grind
    omega
  have h4 : (q * v1 * B + q * v0) * P < (q * v1 * B + r * B + u0 + 1) * P := by omega
  have h5 := Nat.lt_of_mul_lt_mul_right h4
  omega

theorem guess_end (hP : 0 < P) (hvr : vr < P) (hv1 : 0 < v1) (hqB : q < B) (hq : q * v1 + r = u2 * B + u1) (hg : q * v0 ≤ r * B + u0) :
    q ≤ (((u2 * B + u1) * B + u0) * P + ur) / ((v1 * B + v0) * P + vr) + 1 := by
  have hB : 0 < B := by omega
  have hv : 0 < (v1 * B + v0) * P + vr := by
    have : 0 < v1 * B := Nat.mul_pos hv1 hB
    have : 0 < (v1 * B + v0) * P := Nat.mul_pos (by omega) hP
    omega
  rcases Nat.eq_zero_or_pos q with e | e
  · rw [e]; exact Nat.zero_le _
  · obtain ⟨p, rfl⟩ : ∃ p, q = p + 1 := ⟨q - 1, by omega⟩
    refine Nat.succ_le_succ ((Nat.le_div_iff_mul_le hv).2 ?_)
    have h1 : (p + 1) * vr ≤ B * P := Nat.le_trans (Nat.mul_le_mul (Nat.le_of_lt hqB) (Nat.le_of_lt hvr)) (Nat.le_refl _)
    have h2 : B * P ≤ v1 * B * P := by
      have := Nat.mul_le_mul_right (B * P) hv1
      calc B * P = 1 * (B * P) := by omega
        _ ≤ v1 * (B * P) := this
        _ = v1 * B * P := by grind
    have h3 : ((p + 1) * v1 * B + (p + 1) * v0) * P ≤ ((u2 * B + u1) * B + u0) * P := by
      refine Nat.mul_le_mul_right _ ?_
      rw [← hq]
      have : ((p + 1) * v1 + r) * B = (p + 1) * v1 * B + r * B := by grind
      omega
    have h4 : p * ((v1 * B + v0) * P + vr) + ((v1 * B + v0) * P + vr) = ((p + 1) * v1 * B + (p + 1) * v0) * P + (p + 1) * vr := by grind
    have h5 : (v1 * B + v0) * P = v1 * B * P + v0 * P := by grind
    omega

theorem guess_upper {T : Nat} (hP : 0 < P) (hB : 0 < B) (hur : ur < P) (hu0 : u0 < B) (h : q * ((v1 * B + v0) * P + vr) ≤ (T * B + u0) * P + ur) : q * v1 ≤ T := by
  refine Nat.le_of_lt_add_one (Nat.lt_of_mul_lt_mul_right (a := B * P) ?_)
  have c1 : q * v1 * (B * P) ≤ q * ((v1 * B + v0) * P + vr) := by
    have : q * ((v1 * B + v0) * P + vr) = q * v1 * (B * P) + q * (v0 * P + vr) := by grind
    omega
  have c2 : (T * B + u0) * P + ur < (T + 1) * (B * P) := by
    have h1 : (u0 + 1) * P ≤ B * P := Nat.mul_le_mul_right _ hu0
    have h2 : (T + 1) * (B * P) = T * B * P + B * P := by grind
    have h3 : (T * B + u0) * P = T * B * P + u0 * P := by grind
    rw [Nat.add_mul, Nat.one_mul] at h1
    omega
  omega
theorem guess_big (hu : ((u2 * B + u1) * B + u0) * P + ur < ((v1 * B + v0) * P + vr) * B) :
    (((u2 * B + u1) * B + u0) * P + ur) / ((v1 * B + v0) * P + vr) < B := Nat.div_lt_of_lt_mul hu

/-- where the rest has grown past a word, the guess is below a word -/
theorem guess_rest (hvr : vr < P) (hv0 : v0 < B) (hu : ((u2 * B + u1) * B + u0) * P + ur < ((v1 * B + v0) * P + vr) * B)
    (hq : q * v1 + r = u2 * B + u1) (hr : B ≤ r) : q < B := by
  have h := top_le hvr hu
  refine Nat.not_le.1 fun hB => ?_
  have := Nat.mul_le_mul_right v1 hB
  have e : B * v1 = v1 * B := Nat.mul_comm _ _
  omega
end
end Pl
namespace Pl

/-- what stands in u over the part that is divided has the rest's value alone -/
theorem part_val (u v : List Int) (i : Nat) (hv : InR v) (hlt : val (u.drop (i + 1)) < val v) (hi : i + v.length < u.length) :
    val ((u.drop i).take (v.length + 1)) = val (u.drop i) ∧ val (u.drop (i + v.length + 1)) = 0 := by
  have h1 := val_take_drop (u.drop (i + 1)) v.length (by simp; omega)
  have h2 := val_lt hv
  rw [List.drop_drop] at h1
  have h0 : val (u.drop (i + 1 + v.length)) = 0 := by
    rcases Nat.eq_zero_or_pos (val (u.drop (i + 1 + v.length))) with e | e
    · exact e
    · have := Nat.mul_le_mul_left (4294967296 ^ v.length) e
      omega
  have h3 := val_take_drop (u.drop i) (v.length + 1) (by simp; omega)
  rw [List.drop_drop] at h3
  have e : i + (v.length + 1) = i + 1 + v.length := by omega
  rw [e, h0] at h3
  refine ⟨by omega, ?_⟩
  have e2 : i + v.length + 1 = i + 1 + v.length := by omega
  rw [e2]; exact h0

theorem part_lt (u v : List Int) (i : Nat) (hu : InR u) (hlt : val (u.drop (i + 1)) < val v) (hi : i < u.length) :
    val (u.drop i) < val v * 4294967296 := by
  rw [drop_val u i hi]
  have := hu.getD i
  have : (val (u.drop (i + 1)) + 1) * 4294967296 ≤ val v * 4294967296 := Nat.mul_le_mul_right _ hlt
  omega

/-- a round of the division: the word x, the rest p -/
theorem div_round (u q v p : List Int) (i : Nat) (x : Nat) (hv : InR v) (hlt : val (u.drop (i + 1)) < val v)
    (hi : i + v.length < u.length) (hp : p.length = v.length + 1) (hx : val p + x * val v = val ((u.drop i).take (v.length + 1))) (hq : i < q.length) :
    val ((u.take i ++ p ++ u.drop (i + v.length + 1)).drop i) = val p ∧
    val (u.drop i) = val p + x * val v ∧ val ((q.set i (x : Int)).drop i) = x + 4294967296 * val (q.drop (i + 1)) := by
  obtain ⟨h1, h2⟩ := part_val u v i hv hlt hi
  refine ⟨?_, by rw [hx, h1], ?_⟩
  · rw [List.append_assoc, List.drop_append_of_le_length (by simp; omega)]
    have e : (u.take i).drop i = [] := by simp
    rw [e, List.nil_append, val_append, h2]; simp
  · rw [drop_val _ _ (by simp; omega), getD_set, if_pos ⟨rfl, hq⟩, List.drop_set_of_lt (by omega)]; simp
theorem top2 (v : List Int) (k : Nat) (h : v.length = k + 2) :
    val v = ((v.getD (k + 1) 0).toNat * 4294967296 + (v.getD k 0).toNat) * 4294967296 ^ k + val (v.take k) := by
  have h1 := take_succ_val v (k + 1)
  rw [List.take_of_length_le (by omega), take_succ_val, Nat.pow_succ] at h1
  rw [h1]; grind
theorem top3 (u : List Int) (k : Nat) (h : u.length = k + 3) :
    val u = (((u.getD (k + 2) 0).toNat * 4294967296 + (u.getD (k + 1) 0).toNat) * 4294967296 + (u.getD k 0).toNat) * 4294967296 ^ k + val (u.take k) := by
  have h1 := take_succ_val u (k + 2)
  rw [List.take_of_length_le (by omega), take_succ_val, take_succ_val, Nat.pow_succ, Nat.pow_succ] at h1
  rw [h1]; grind

/-- the guess's state: where a step down is asked, it is right -/
theorem guess_down (u v : List Int) (k q r : Nat) (hu : u.length = k + 3) (hv : v.length = k + 2) (hru : InR u) (hlt : val u < val v * 4294967296)
    (hq : q * (v.getD (k + 1) 0).toNat + r = (u.getD (k + 2) 0).toNat * 4294967296 + (u.getD (k + 1) 0).toNat)
    (hg : 4294967296 ≤ q ∨ r * 4294967296 + (u.getD k 0).toNat < q * (v.getD k 0).toNat) : val u / val v < q := by
  rcases hg with hg | hg
  · exact Nat.lt_of_lt_of_le (Nat.div_lt_of_lt_mul hlt) hg
  · rw [top3 u k hu, top2 v k hv]
    have := val_lt (hru.take k)
    rw [List.length_take, Nat.min_eq_left (by omega)] at this
    exact guess_step (Nat.pow_pos (by omega)) this hq hg
theorem guess_stop (u v : List Int) (k q r : Nat) (hu : u.length = k + 3) (hv : v.length = k + 2) (hrv : InR v) (hlt : val u < val v * 4294967296)
    (hv1 : 0 < v.getD (k + 1) 0)
    (hq : q * (v.getD (k + 1) 0).toNat + r = (u.getD (k + 2) 0).toNat * 4294967296 + (u.getD (k + 1) 0).toNat)
    (hg : 4294967296 ≤ r ∨ q < 4294967296 ∧ q * (v.getD k 0).toNat ≤ r * 4294967296 + (u.getD k 0).toNat) : q < 4294967296 ∧ q ≤ val u / val v + 1 := by
  have h1 := val_lt (hrv.take k)
  rw [List.length_take, Nat.min_eq_left (by omega)] at h1
  have h0 := (hrv.getD k)
  rw [top3 u k hu, top2 v k hv] at hlt ⊢
  have hqB : q < 4294967296 := by
    rcases hg with hg | hg
    · exact guess_rest h1 (by omega) hlt hq hg
    · exact hg.1
  refine ⟨hqB, guess_end (Nat.pow_pos (by omega)) h1 (by omega) hqB hq ?_⟩
  rcases hg with hg | hg
  · have a1 : q * (v.getD k 0).toNat ≤ 4294967296 * 4294967296 := Nat.mul_le_mul (by omega) (by omega)
    have a2 : 4294967296 * 4294967296 ≤ r * 4294967296 := Nat.mul_le_mul_right _ hg
    omega
  · exact hg.2
end Pl
namespace Pl
def sg (neg : Bool) (n : Nat) : Int := if neg then -(n : Int) else n
theorem sg_natAbs (neg : Bool) (n : Nat) : (sg neg n).natAbs = n := by unfold sg; split <;> simp
theorem sg_neg (neg : Bool) (n : Nat) : sg neg n < 0 ↔ neg = true ∧ n ≠ 0 := by
  unfold sg; cases neg <;> simp <;> omega

theorem mk_num (neg : Bool) (n d : Nat) (hd : d ≠ 0) : (mkRat (sg neg n) d).num = sg neg (n / n.gcd d) := by
  rw [Rat.num_mkRat, if_neg hd, sg_natAbs, Nat.gcd_comm d n]
  unfold sg; cases neg
  · rfl
  · simp only [if_true]
    have hg : (n.gcd d : Int) ∣ n := Int.natCast_dvd_natCast.2 (Nat.gcd_dvd_left n d)
    rw [Int.neg_ediv_of_dvd hg, ← Int.natCast_ediv]
theorem mk_den (neg : Bool) (n d : Nat) (hd : d ≠ 0) : (mkRat (sg neg n) d).den = d / n.gcd d := by
  rw [Rat.den_mkRat, if_neg hd, sg_natAbs, Nat.gcd_comm d n]

/-- a fraction's words in its one form: below 0, numerator, denominator -/
structure F where
  neg : Bool
  num : List Int
  den : List Int
deriving DecidableEq

def F.zero : F := ⟨false, [], []⟩
/-- a fraction that may be -/
def F.ok (a : F) : Prop := Norm a.num ∧ Norm a.den ∧ a.num.length ≤ 2048 ∧ a.den.length ≤ 2048 ∧ (val a.num).gcd (val a.den) = 1 ∧ a.den ≠ [] ∧ (a.num = [] → a.neg = false)
def F.q (a : F) : Rat := mkRat (sg a.neg (val a.num)) (val a.den)
def F.of (q : Rat) : F := ⟨decide (q.num < 0), words q.num.natAbs, words q.den⟩
def fits (q : Rat) : Prop := (words q.num.natAbs).length ≤ 2048 ∧ (words q.den).length ≤ 2048
instance (q : Rat) : Decidable (fits q) := inferInstanceAs (Decidable (_ ∧ _))

theorem F.ok.den_pos {a : F} (h : a.ok) : val a.den ≠ 0 := by
  have := h.2.1.val_pos h.2.2.2.2.2.1; omega
theorem F.ok.num_q {a : F} (h : a.ok) : a.q.num = sg a.neg (val a.num) := by
  unfold F.q; rw [mk_num _ _ _ h.den_pos, h.2.2.2.2.1, Nat.div_one]
theorem F.ok.den_q {a : F} (h : a.ok) : a.q.den = val a.den := by
  unfold F.q; rw [mk_den _ _ _ h.den_pos, h.2.2.2.2.1, Nat.div_one]
theorem val_eq_zero {l : List Int} (h : Norm l) : val l = 0 ↔ l = [] := by
  constructor
  · intro h0; refine Classical.byContradiction fun hn => ?_
    have := h.val_pos hn; omega
  · rintro rfl; rfl
theorem F.ok.of_q {a : F} (h : a.ok) : F.of a.q = a := by
  unfold F.of
  rw [h.num_q, h.den_q, sg_natAbs, words_val h.1, words_val h.2.1]
  have e : decide (sg a.neg (val a.num) < 0) = a.neg := by
    rw [Bool.eq_iff_iff, decide_eq_true_iff, sg_neg, Ne, val_eq_zero h.1]
    constructor
    · exact fun h => h.1
    · intro hn; exact ⟨hn, fun e => by have := h.2.2.2.2.2.2 e; rw [hn] at this; cases this⟩
  rw [e]
theorem F.ok.fits {a : F} (h : a.ok) : fits a.q := by
  unfold Pl.fits
  rw [h.num_q, h.den_q, sg_natAbs, words_val h.1, words_val h.2.1]
  exact ⟨h.2.2.1, h.2.2.2.1⟩
theorem F.of_ok {q : Rat} (h : Pl.fits q) : (F.of q).ok := by
  refine ⟨words_norm _, words_norm _, h.1, h.2, ?_, ?_, ?_⟩
  · show (val (words _)).gcd (val (words _)) = 1
    rw [val_words, val_words]; exact q.reduced
  · intro e; exact q.den_nz (words_eq_nil.1 e)
  · intro e
    have := words_eq_nil.1 e
    exact decide_eq_false (by omega)
theorem F.q_of (q : Rat) : (F.of q).q = q := by
  unfold F.q F.of
  simp only [val_words]
  have e : sg (decide (q.num < 0)) q.num.natAbs = q.num := by
    unfold sg; by_cases h : q.num < 0 <;> simp [h] <;> omega
  rw [e, Rat.mkRat_self]
theorem F.ok.ext {a b : F} (ha : a.ok) (hb : b.ok) (h : a.q = b.q) : a = b := by rw [← ha.of_q, ← hb.of_q, h]

/-- what is told of a fraction -/
def tell (q : Rat) : F × Int := if fits q then (F.of q, 0) else (F.zero, 3)

/-- the fraction of two natural numbers -/
theorem lowest_of (neg : Bool) (n d : Nat) (hd : d ≠ 0) :
    F.of (mkRat (sg neg n) d) = ⟨neg && decide (n ≠ 0), words (n / n.gcd d), words (d / n.gcd d)⟩ := by
  unfold F.of
  rw [mk_num _ _ _ hd, mk_den _ _ _ hd, sg_natAbs]
  have e : decide (sg neg (n / n.gcd d) < 0) = (neg && decide (n ≠ 0)) := by
    rw [Bool.eq_iff_iff, decide_eq_true_iff, sg_neg, Bool.and_eq_true, decide_eq_true_iff]
    have : n / n.gcd d ≠ 0 ↔ n ≠ 0 := by
      constructor
      · rintro h rfl; simp at h
      · intro h
        have h1 : n.gcd d ∣ n := Nat.gcd_dvd_left n d
        have h2 : 0 < n.gcd d := Nat.gcd_pos_of_pos_right _ (by omega)
        have := Nat.div_pos (Nat.le_of_dvd (by omega) h1) h2
        omega
    rw [this]
  rw [e]

theorem add_q {a b : F} (ha : a.ok) (hb : b.ok) :
    a.q + b.q = mkRat (sg a.neg (val a.num * val b.den) + sg b.neg (val b.num * val a.den)) (val a.den * val b.den) := by
  unfold F.q
  rw [Rat.mkRat_add_mkRat _ _ ha.den_pos hb.den_pos]
  congr 1
  unfold sg; cases a.neg <;> cases b.neg <;> simp <;> grind
theorem neg_q (a : F) : (⟨!a.neg, a.num, a.den⟩ : F).q = -a.q := by
  unfold F.q
  rw [Rat.neg_mkRat]
  congr 1
  unfold sg; cases a.neg <;> simp
theorem mul_q (a b : F) : a.q * b.q = mkRat (sg (a.neg != b.neg) (val a.num * val b.num)) (val a.den * val b.den) := by
  unfold F.q
  rw [Rat.mkRat_mul_mkRat]
  congr 1
  unfold sg; cases a.neg <;> cases b.neg <;> simp <;> grind
theorem num_lt_zero {q : Rat} : q.num < 0 ↔ q < 0 := by
  rw [← Rat.not_le, ← Rat.num_nonneg, Int.not_le]
theorem sign_neg {a : F} (ha : a.ok) : a.q < 0 ↔ a.neg = true := by
  rw [← num_lt_zero, ha.num_q, sg_neg, Ne, val_eq_zero ha.1]
  constructor
  · exact fun h => h.1
  · intro hn; exact ⟨hn, fun e => by have := ha.2.2.2.2.2.2 e; rw [hn] at this; cases this⟩
theorem sign_zero {a : F} (ha : a.ok) : a.q = 0 ↔ a.num = [] := by
  rw [← Rat.num_eq_zero, ha.num_q]
  rw [← val_eq_zero ha.1]
  unfold sg; cases a.neg <;> simp

/-- a comparison, as its number -/
def cmpN (x y : Nat) : Int := if x < y then -1 else if y < x then 1 else 0
def cmpQ (x y : Rat) : Int := if x < y then -1 else if y < x then 1 else 0
theorem lt_q {a b : F} (ha : a.ok) (hb : b.ok) : a.q < b.q ↔ sg a.neg (val a.num * val b.den) < sg b.neg (val b.num * val a.den) := by
  rw [Rat.lt_iff, ha.num_q, ha.den_q, hb.num_q, hb.den_q]
  have e1 : sg a.neg (val a.num) * (val b.den : Int) = sg a.neg (val a.num * val b.den) := by unfold sg; cases a.neg <;> simp [Int.neg_mul]
  have e2 : sg b.neg (val b.num) * (val a.den : Int) = sg b.neg (val b.num * val a.den) := by unfold sg; cases b.neg <;> simp [Int.neg_mul]
  rw [e1, e2]
/-- Compare's four ways -/
def cmpF (a b : F) : Int :=
  if a.neg && b.neg then cmpN (val b.num * val a.den) (val a.num * val b.den)
  else if a.neg then -1 else if b.neg then 1 else cmpN (val a.num * val b.den) (val b.num * val a.den)
theorem cmp_q {a b : F} (ha : a.ok) (hb : b.ok) : cmpF a b = cmpQ a.q b.q := by
  unfold cmpF cmpQ cmpN
  simp only [lt_q ha hb, lt_q hb ha]
  have na : a.neg = true → 0 < val a.num := fun h => by
    refine ha.1.val_pos fun e => ?_
    have := ha.2.2.2.2.2.2 e; rw [h] at this; cases this
  have nb : b.neg = true → 0 < val b.num := fun h => by
    refine hb.1.val_pos fun e => ?_
    have := hb.2.2.2.2.2.2 e; rw [h] at this; cases this
  have da := ha.den_pos
  have db := hb.den_pos
  generalize hx : val a.num * val b.den = x
  generalize hy : val b.num * val a.den = y
  have px : a.neg = true → 0 < x := fun h => by rw [← hx]; exact Nat.mul_pos (na h) (by omega)
  have py : b.neg = true → 0 < y := fun h => by rw [← hy]; exact Nat.mul_pos (nb h) (by omega)
  unfold sg
  cases hna : a.neg <;> cases hnb : b.neg <;> simp only [Bool.and_true, Bool.and_false, Bool.false_eq_true, if_false, if_true, Bool.and_self]
  · simp only [Int.ofNat_lt]
  · have := py hnb
    rw [if_neg (by omega), if_pos (by omega)]
  · have := px hna
    rw [if_pos (by omega)]
  · simp only [Int.neg_lt_neg_iff, Int.ofNat_lt]
theorem plus_q {a b : F} (ha : a.ok) (hb : b.ok) : a.q + b.q =
    if a.neg = b.neg then mkRat (sg a.neg (val a.num * val b.den + val b.num * val a.den)) (val a.den * val b.den)
    else if val a.num * val b.den < val b.num * val a.den then mkRat (sg b.neg (val b.num * val a.den - val a.num * val b.den)) (val a.den * val b.den)
    else mkRat (sg a.neg (val a.num * val b.den - val b.num * val a.den)) (val a.den * val b.den) := by
  rw [add_q ha hb]
  generalize val a.num * val b.den = x
  generalize val b.num * val a.den = y
  unfold sg
  cases a.neg <;> cases b.neg <;> simp <;> (repeat' split) <;> congr 1 <;> omega
theorem neg_ok {a : F} (h : a.ok) : (⟨!a.neg && decide (a.num ≠ []), a.num, a.den⟩ : F).ok := by
  refine ⟨h.1, h.2.1, h.2.2.1, h.2.2.2.1, h.2.2.2.2.1, h.2.2.2.2.2.1, fun e => ?_⟩
  simp only at e; simp [e]
theorem turned_q {a : F} : (⟨!a.neg && decide (a.num ≠ []), a.num, a.den⟩ : F).q = -a.q := by
  rw [← neg_q]
  by_cases e : a.num = []
  · unfold F.q; simp [e, sg, val]
  · simp [e]
/-- a quotient -/
theorem quo_q {a b : F} (ha : a.ok) (hb : b.ok) (h : b.num ≠ []) :
    a.q / b.q = mkRat (sg (a.neg != b.neg) (val a.num * val b.den)) (val a.den * val b.num) := by
  have hb0 : b.q ≠ 0 := fun e => h ((sign_zero hb).1 e)
  have hn : val b.num ≠ 0 := fun e => h ((val_eq_zero hb.1).1 e)
  have e1 : a.q = mkRat (sg (a.neg != b.neg) (val a.num * val b.den)) (val a.den * val b.num) * b.q := by
    unfold F.q
    rw [Rat.mkRat_mul_mkRat, Rat.mkRat_eq_iff ha.den_pos (by
      have := ha.den_pos; have := hb.den_pos
      exact Nat.mul_ne_zero (Nat.mul_ne_zero ha.den_pos hn) hb.den_pos)]
    unfold sg; cases a.neg <;> cases b.neg <;> simp <;> grind
  generalize mkRat (sg (a.neg != b.neg) (val a.num * val b.den)) (val a.den * val b.num) = z at e1
  rw [e1]
  grind
theorem neg_div (n d : Nat) (hd : 0 < d) : -(n : Int) / (d : Int) = -((n / d + (if n % d = 0 then 0 else 1) : Nat) : Int) := by
  have h := Nat.div_add_mod n d
  have h2 := Nat.mod_lt n hd
  have e : (n : Int) = (d : Int) * (n / d : Nat) + (n % d : Nat) := by rw [← Int.natCast_mul, ← Int.natCast_add, h]
  generalize n / d = k at *
  generalize n % d = r at *
  rw [e]
  have hdz : (d : Int) ≠ 0 := by omega
  split
  · rename_i h0; subst h0
    have : -((d : Int) * (k : Int) + ((0 : Nat) : Int)) = (d : Int) * (-(k : Int)) := by grind
    rw [this, Int.mul_ediv_cancel_left _ hdz]; simp
  · have : -((d : Int) * (k : Int) + (r : Int)) = ((d : Int) - r) + (d : Int) * (-(k : Int) - 1) := by grind
    rw [this, Int.add_mul_ediv_left _ _ hdz, Int.ediv_eq_zero_of_lt (by omega) (by omega)]
    omega
theorem floor_q {a : F} (ha : a.ok) :
    a.q.floor = sg a.neg (val a.num / val a.den + (if a.neg = true ∧ val a.num % val a.den ≠ 0 then 1 else 0)) := by
  rw [Rat.floor_def, ha.num_q, ha.den_q]
  have hd := ha.den_pos
  unfold sg
  cases a.neg
  · simp
  · simp only [if_true, true_and]
    rw [neg_div _ _ (by omega)]
    by_cases h : val a.num % val a.den = 0 <;> simp [h]
end Pl
namespace Pl
/-- decimal digits -/
def decF : Nat → Nat → List UInt8
  | 0, _ => []
  | f + 1, n => if n < 10 then [UInt8.ofNat (48 + n)] else decF f (n / 10) ++ [UInt8.ofNat (48 + n % 10)]
def dec (n : Nat) : List UInt8 := decF (n + 1) n
/-- just k digits -/
def pad : Nat → Nat → List UInt8
  | 0, _ => []
  | k + 1, n => pad k (n / 10) ++ [UInt8.ofNat (48 + n % 10)]
def undec (l : List UInt8) : Nat := l.foldl (fun a c => a * 10 + (c.toNat - 48)) 0
def digit (c : UInt8) : Bool := 48 ≤ c && c ≤ 57
/-- a number's text: digits, no nought ahead of others -/
def numeral (l : List UInt8) : Bool := !l.isEmpty && l.all digit && (l.length == 1 || l.head? != some 48)

theorem decF_fuel (f g n : Nat) (hf : n < f) (hg : n < g) : decF f n = decF g n := by
  induction f generalizing g n with
  | zero => omega
  | succ f ih =>
    cases g with
    | zero => omega
    | succ g =>
      unfold decF
      split
      · rfl
      · rw [ih g (n / 10) (by omega) (by omega)]
theorem dec_small {n : Nat} (h : n < 10) : dec n = [UInt8.ofNat (48 + n)] := by unfold dec decF; rw [if_pos h]
theorem dec_big {n : Nat} (h : 10 ≤ n) : dec n = dec (n / 10) ++ [UInt8.ofNat (48 + n % 10)] := by
  unfold dec
  rw [decF, if_neg (by omega), decF_fuel n (n / 10 + 1) (n / 10) (by omega) (by omega)]
theorem pad_length (k n : Nat) : (pad k n).length = k := by
  induction k generalizing n with
  | zero => rfl
  | succ k ih => simp [pad, ih]
theorem dec_pad (m k r : Nat) (hm : 0 < m) (hr : r < 10 ^ k) : dec (m * 10 ^ k + r) = dec m ++ pad k r := by
  induction k generalizing r with
  | zero => simp at hr; subst hr; simp [pad]
  | succ k ih =>
    rw [Nat.pow_succ] at hr ⊢
    have h1 : 0 < 10 ^ k := Nat.pow_pos (by omega)
    have h2 : 10 ^ k ≤ m * 10 ^ k := Nat.le_mul_of_pos_left _ hm
    have e : m * (10 ^ k * 10) + r = (m * 10 ^ k + r / 10) * 10 + r % 10 := by
      have := Nat.div_add_mod r 10
      grind
    have h3 : 10 ≤ m * (10 ^ k * 10) + r := by
      have : m * (10 ^ k * 10) = (m * 10 ^ k) * 10 := by grind
      omega
    rw [dec_big h3, e]
    have e1 : ((m * 10 ^ k + r / 10) * 10 + r % 10) / 10 = m * 10 ^ k + r / 10 := by omega
    have e2 : ((m * 10 ^ k + r / 10) * 10 + r % 10) % 10 = r % 10 := by omega
    rw [e1, e2, ih (r / 10) (by omega), pad, List.append_assoc]
theorem dec_length_pos (n : Nat) : 0 < (dec n).length := by
  by_cases h : n < 10
  · rw [dec_small h]; simp
  · rw [dec_big (by omega)]; simp
theorem dec_length_le (k n : Nat) (hk : 0 < k) (h : n < 10 ^ k) : (dec n).length ≤ k := by
  induction k generalizing n with
  | zero => omega
  | succ k ih =>
    by_cases h1 : n < 10
    · rw [dec_small h1]; simp
    · rw [dec_big (by omega)]
      rcases Nat.eq_zero_or_pos k with e | e
      · subst e; simp at h; omega
      · have := ih (n / 10) e (by rw [Nat.pow_succ] at h; omega)
        simp; omega
theorem pad_dec (k n : Nat) (hk : 0 < k) (h : n < 10 ^ k) : List.replicate (k - (dec n).length) 48 ++ dec n = pad k n := by
  induction k generalizing n with
  | zero => omega
  | succ k ih =>
    rcases Nat.eq_zero_or_pos k with e | e
    · subst e
      have h1 : n < 10 := by simpa using h
      rw [dec_small h1]; simp [pad, Nat.mod_eq_of_lt h1]
    · by_cases h1 : n < 10
      · rw [dec_small h1, pad]
        have h2 := ih (n / 10) e (by have : 0 < 10 ^ k := Nat.pow_pos (by omega); omega)
        rw [← h2, Nat.mod_eq_of_lt h1]
        have e3 : n / 10 = 0 := by omega
        rw [e3]
        have e4 : dec 0 = [48] := rfl
        rw [e4]
        simp only [List.length_singleton]
        have e5 : k + 1 - 1 = (k - 1) + 1 := by omega
        rw [e5, List.replicate_succ']
      · rw [dec_big (by omega), pad, ← ih (n / 10) e (by rw [Nat.pow_succ] at h; omega)]
        simp only [List.length_append, List.length_singleton, ← List.append_assoc]
        congr 3
        have := dec_length_pos (n / 10)
        omega

theorem undec_append (a b : List UInt8) : undec (a ++ b) = undec a * 10 ^ b.length + undec b := by
  unfold undec
  rw [List.foldl_append]
  have key : ∀ (l : List UInt8) (s : Nat), l.foldl (fun a c => a * 10 + (c.toNat - 48)) s = s * 10 ^ l.length + l.foldl (fun a c => a * 10 + (c.toNat - 48)) 0 := by
    intro l
    induction l with
    | nil => intro s; simp
    | cons c l ih =>
      intro s
      simp only [List.foldl_cons, List.length_cons]
      rw [ih, ih (0 * 10 + (c.toNat - 48)), Nat.pow_succ]
      grind
  rw [key]
theorem undec_one (n : Nat) (h : n < 10) : undec [UInt8.ofNat (48 + n)] = n := by
  simp [undec, UInt8.toNat_ofNat']; omega
theorem undec_dec (n : Nat) : undec (dec n) = n := by
  induction n using Nat.strongRecOn with
  | _ n ih =>
    by_cases h : n < 10
    · rw [dec_small h, undec_one n h]
    · rw [dec_big (by omega), undec_append, ih _ (by omega), undec_one _ (by omega)]; simp; omega
theorem digit_of (n : Nat) (h : n < 10) : digit (UInt8.ofNat (48 + n)) = true := by
  unfold digit; simp [UInt8.le_iff_toNat_le, UInt8.toNat_ofNat']; omega
theorem dec_digits (n : Nat) : (dec n).all digit = true := by
  induction n using Nat.strongRecOn with
  | _ n ih =>
    by_cases h : n < 10
    · rw [dec_small h]; show (digit _ && true) = true; rw [digit_of n h]; rfl
    · rw [dec_big (by omega), List.all_append, ih _ (by omega)]; show (true && (digit _ && true)) = true; rw [digit_of (n % 10) (by omega)]; rfl
theorem head_append (a b : List UInt8) (h : a ≠ []) : (a ++ b).head? = a.head? := by
  cases a with
  | nil => exact absurd rfl h
  | cons x l => rfl
theorem dec_head (n : Nat) (h : 0 < n) : (dec n).head? ≠ some 48 := by
  induction n using Nat.strongRecOn with
  | _ n ih =>
    by_cases h1 : n < 10
    · rw [dec_small h1]
      intro e
      simp only [List.head?_cons, Option.some.injEq] at e
      have := congrArg UInt8.toNat e
      simp [UInt8.toNat_ofNat'] at this; omega
    · rw [dec_big (by omega)]
      have h3 := dec_length_pos (n / 10)
      rw [head_append _ _ (by intro e; rw [e] at h3; simp at h3)]
      exact ih _ (by omega) (by omega)
theorem numeral_dec (n : Nat) : numeral (dec n) = true := by
  unfold numeral
  rw [dec_digits]
  have h3 := dec_length_pos n
  have h4 : (dec n).isEmpty = false := by
    cases h : dec n with
    | nil => rw [h] at h3; simp at h3
    | cons a l => rfl
  rw [h4]
  rcases Nat.eq_zero_or_pos n with e | e
  · subst e; rfl
  · have := dec_head n e
    simp [this]
theorem dec_undec (l : List UInt8) (h : numeral l = true) : dec (undec l) = l := by
  have key : ∀ (k : Nat) (l : List UInt8), l.length = k + 1 → l.all digit = true → (l.length = 1 ∨ l.head? ≠ some 48) → dec (undec l) = l ∧ (l.head? ≠ some 48 → 0 < undec l) := by
    intro k
    induction k with
    | zero =>
      intro l hl hd _
      match l, hl with
      | [c], _ =>
        simp [digit, UInt8.le_iff_toNat_le] at hd
        have e : undec [c] = c.toNat - 48 := by simp [undec]
        have e2 : UInt8.ofNat (48 + (c.toNat - 48)) = c := by
          apply UInt8.toNat_inj.1
          rw [UInt8.toNat_ofNat']
          have := c.toNat_lt
          omega
        rw [e, dec_small (by omega), e2]
        refine ⟨rfl, fun hne => ?_⟩
        have : c ≠ 48 := by simpa using hne
        have : c.toNat ≠ 48 := fun h => this (UInt8.toNat_inj.1 (by rw [h]; rfl))
        omega
    | succ k ih =>
      intro l hl hd hh
      have hne : l ≠ [] := by intro e; subst e; simp at hl
      have e := List.dropLast_concat_getLast hne
      generalize hm : l.dropLast = m at e
      generalize l.getLast hne = c at e
      subst e
      have hml : m.length = k + 1 := by simp at hl; omega
      rw [List.all_append, Bool.and_eq_true] at hd
      have hmh : (m ++ [c]).head? = m.head? := by
        refine head_append _ _ ?_
        intro e; subst e; simp at hml
      have hhd : m.head? ≠ some 48 := by
        rcases hh with h | h
        · simp at h; subst h; simp at hml
        · rwa [hmh] at h
      obtain ⟨h1, h2⟩ := ih m hml hd.1 (.inr hhd)
      have h3 := h2 hhd
      have hc : digit c = true := by simpa using hd.2
      simp [digit, UInt8.le_iff_toNat_le] at hc
      have e : undec (m ++ [c]) = undec m * 10 + (c.toNat - 48) := by rw [undec_append]; simp [undec]
      have e2 : UInt8.ofNat (48 + (c.toNat - 48)) = c := by
        apply UInt8.toNat_inj.1
        rw [UInt8.toNat_ofNat']
        have := c.toNat_lt
        omega
      rw [e]
      refine ⟨?_, fun _ => by omega⟩
      rw [dec_big (by omega)]
      have e4 : (undec m * 10 + (c.toNat - 48)) / 10 = undec m := by omega
      have e5 : (undec m * 10 + (c.toNat - 48)) % 10 = c.toNat - 48 := by omega
      rw [e4, e5, h1, e2]
  unfold numeral at h
  simp only [Bool.and_eq_true, Bool.or_eq_true, Bool.not_eq_true', beq_iff_eq, bne_iff_ne] at h
  have hl : l.length ≠ 0 := by
    intro e
    have := List.eq_nil_of_length_eq_zero e
    subst this; simp at h
  exact (key (l.length - 1) l (by omega) h.1.2 h.2).1
end Pl
end Go.Proofs.YtolbafckppafkaaGreatDoor
