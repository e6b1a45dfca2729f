/-
  Stable texts joined: Nk, Nl, Nm.
-/
import Derived.Test.YtolbafckppafkaaGreatDoorYE
import Derived.Test.YtolbafckppafkaaGreatDoorShB
import Derived.Lib.ItoaNum
import Derived.Deep.LoopGhost
/-
  PACKAGE nat, ELEVENTH PART: what a long division leans on (no walk but the count of leading noughts).
-/
set_option linter.unusedVariables false
set_option linter.unusedSimpArgs false
set_option linter.unnecessarySimpa false
namespace Go.Proofs.YtolbafckppafkaaGreatDoor
open Go.RowKit Pl

/-- The shift by which the first word becomes great. -/
theorem lz_any (t : Nat) (w : World) (h0 : 0 < t) (h1 : t < 4294967296) :
    Calls Tryz.prog 115 #[.int .u32 t] w fun e w' => ∃ n bl : Nat, e = .returned (.int .i64 n) ∧ n + bl = 32 ∧ 1 ≤ bl ∧ 2 ^ (bl - 1) ≤ t ∧ t < 2 ^ bl ∧ w = w' := by
  refine (Tryz.bits_LeadingZeros32 (t : Int) w (by omega) (by omega)).mono ?_
  rintro e w' ⟨rfl, rfl⟩
  rw [Int.toNat_natCast]
  have hb := Lib.bitLenAux_bounds 64 t (by omega) (by omega)
  have he : Lib.bitLen t = Lib.bitLenAux 64 t := rfl
  rw [← he] at hb
  obtain ⟨b1, b2, b3⟩ := hb
  have hle : Lib.bitLen t ≤ 32 := by
    refine Nat.le_of_not_lt fun hh => ?_
    have := Nat.pow_le_pow_right (n := 2) (by omega) (show 32 ≤ Lib.bitLen t - 1 by omega)
    omega
  exact ⟨32 - Lib.bitLen t, Lib.bitLen t, by congr 2; omega, by omega, b1, b2, b3, rfl⟩

theorem top_bounds (m : List Int) (k : Nat) (hm : InR m) (hk : m.length = k + 1) :
    (m.getD k 0).toNat * 4294967296 ^ k ≤ val m ∧ val m < ((m.getD k 0).toNat + 1) * 4294967296 ^ k := by
  have h1 := take_succ_val m k
  rw [List.take_of_length_le (by omega)] at h1
  have h2 := val_lt (hm.take k)
  rw [List.length_take, Nat.min_eq_left (by omega)] at h2
  rw [Nat.add_mul, Nat.one_mul, h1, Nat.mul_comm]
  omega

theorem norm_up (m : List Int) (k n bl : Nat) (hm : InR m) (hk : m.length = k + 1) (hn : n + bl = 32) (hbl : 1 ≤ bl) (h1 : 2 ^ (bl - 1) ≤ (m.getD k 0).toNat) (h2 : (m.getD k 0).toNat < 2 ^ bl) :
    (words (val m * 2 ^ n)).length = k + 1 ∧ 2147483648 ≤ (words (val m * 2 ^ n)).getD k 0 := by
  obtain ⟨t1, t2⟩ := top_bounds m k hm hk
  generalize (m.getD k 0).toNat = t at *
  have p1 : 2 ^ n * 2 ^ bl = 4294967296 := by rw [← Nat.pow_add, hn]
  have p2 : 2 ^ n * 2 ^ (bl - 1) = 2147483648 := by rw [← Nat.pow_add, show n + (bl - 1) = 31 by omega]
  have a1 : t * 2 ^ n ≥ 2147483648 := by
    have := Nat.mul_le_mul_left (2 ^ n) h1
    rw [p2, Nat.mul_comm] at this; exact this
  have a2 : (t + 1) * 2 ^ n ≤ 4294967296 := by
    have := Nat.mul_le_mul_left (2 ^ n) (show t + 1 ≤ 2 ^ bl from h2)
    rw [p1, Nat.mul_comm] at this; exact this
  have lo : 2147483648 * 4294967296 ^ k ≤ val m * 2 ^ n := by
    have e1 := Nat.mul_le_mul_right (2 ^ n) t1
    have e2 := Nat.mul_le_mul_right (4294967296 ^ k) a1
    have e3 : t * 4294967296 ^ k * 2 ^ n = t * 2 ^ n * 4294967296 ^ k := by rw [Nat.mul_right_comm]
    omega
  have hi : val m * 2 ^ n < 4294967296 ^ (k + 1) := by
    have hp : 0 < 2 ^ n := Nat.pow_pos (by omega)
    have e1 := Nat.mul_lt_mul_of_pos_right t2 hp
    have e2 := Nat.mul_le_mul_right (4294967296 ^ k) a2
    have e3 : (t + 1) * 4294967296 ^ k * 2 ^ n = (t + 1) * 2 ^ n * 4294967296 ^ k := by rw [Nat.mul_right_comm]
    rw [Nat.pow_succ, Nat.mul_comm (4294967296 ^ k)]
    omega
  have hl1 : (words (val m * 2 ^ n)).length ≤ k + 1 := words_len.2 hi
  have hl2 : ¬ (words (val m * 2 ^ n)).length ≤ k := fun hh => by
    have := words_len.1 hh
    have hp : 0 < 4294967296 ^ k := Nat.pow_pos (by omega)
    omega
  have hl : (words (val m * 2 ^ n)).length = k + 1 := by omega
  refine ⟨hl, ?_⟩
  obtain ⟨s1, s2⟩ := top_bounds (words (val m * 2 ^ n)) k (words_inR _) hl
  rw [val_words] at s2
  have h3 : 2147483648 * 4294967296 ^ k < (((words (val m * 2 ^ n)).getD k 0).toNat + 1) * 4294967296 ^ k := by omega
  have h4 := Nat.lt_of_mul_lt_mul_right h3
  have h5 := (words_inR (val m * 2 ^ n)).getD k
  omega

/-- The quotient's words and the rest behind the division of what was shifted. -/
theorem unshift {a b p q r : Nat} (hp : 0 < p) (h : a * p = q * (b * p) + r) (hr : r < b * p) : q = a / b ∧ r / p = a % b := by
  have hb : 0 < b := by
    rcases Nat.eq_zero_or_pos b with e | e
    · subst e; omega
    · exact e
  have hle : q * b ≤ a := by
    refine Nat.le_of_not_lt fun hh => ?_
    have h2 : (a + 1) * p ≤ q * b * p := Nat.mul_le_mul_right p hh
    rw [Nat.add_mul, Nat.mul_assoc] at h2
    omega
  obtain ⟨s, rfl⟩ : ∃ s, a = q * b + s := ⟨a - q * b, by omega⟩
  have hs : s * p = r := by rw [Nat.add_mul, Nat.mul_assoc] at h; omega
  have hsb : s < b := by
    refine Nat.lt_of_mul_lt_mul_right (a := p) ?_
    omega
  refine ⟨?_, ?_⟩
  · rw [Nat.mul_comm, Nat.mul_add_div hb, Nat.div_eq_of_lt hsb, Nat.add_zero]
  · rw [← hs, Nat.mul_div_cancel _ hp, Nat.mul_comm, Nat.mul_add_mod, Nat.mod_eq_of_lt hsb]

/-- The start of the division: the highest words are below the divisor. -/
theorem start_lt (a b : List Int) (U : List Int) (k n lq : Nat) (hb : Norm b) (hk : b.length = k + 1) (hU : U.length = a.length + 1) (ha : InR a) (hv : val U = val a * 2 ^ n) (hlq : lq + (k + 1) = a.length + 1) (hrU : InR U) :
    val (U.drop lq) < val b * 2 ^ n := by
  have h1 := val_take_drop U lq (by omega)
  have h2 := val_lt ha
  have hp : 0 < 2 ^ n := Nat.pow_pos (by omega)
  have h3 : 4294967296 ^ k ≤ val b := by
    have hh := hb.len_le (k := k)
    have : ¬ b.length ≤ k := by omega
    rw [hh] at this; omega
  refine Nat.lt_of_mul_lt_mul_left (a := 4294967296 ^ lq) ?_
  have h4 : val a * 2 ^ n < 4294967296 ^ a.length * 2 ^ n := Nat.mul_lt_mul_of_pos_right h2 hp
  have h5 : 4294967296 ^ a.length = 4294967296 ^ lq * 4294967296 ^ k := by rw [← Nat.pow_add]; congr 1; omega
  have h6 : 4294967296 ^ lq * (4294967296 ^ k * 2 ^ n) ≤ 4294967296 ^ lq * (val b * 2 ^ n) := Nat.mul_le_mul_left _ (Nat.mul_le_mul_right _ h3)
  rw [h5, Nat.mul_assoc] at h4
  omega

/-- One word of the quotient, where the guess was right, or one too much and put back. -/
theorem word_right {p v x b B : Nat} {p' : Nat} (hx1 : p / v ≤ x) (hx2 : x ≤ p / v + 1) (hv : 0 < v) (h : p' + x * v = p + B * b) (hb : b ≤ 1) (hp' : p' < B) (hvB : v < B) :
    (b = 0 → x = p / v ∧ p' = p % v) ∧ (b = 1 → x = p / v + 1) := by
  have hd := Nat.div_add_mod p v
  have hm := Nat.mod_lt p hv
  generalize p / v = d at *
  generalize p % v = r at *
  rw [Nat.mul_comm] at hd
  refine ⟨fun e => ?_, fun e => ?_⟩
  · subst e
    rcases Nat.lt_or_ge d x with hh | hh
    · have : x = d + 1 := by omega
      subst this
      rw [Nat.add_mul] at h; omega
    · have : x = d := by omega
      subst this
      exact ⟨rfl, by omega⟩
  · subst e
    rcases Nat.lt_or_ge d x with hh | hh
    · omega
    · have : x = d := by omega
      subst this
      omega
theorem word_back {p v B p' p'' s : Nat} (hv : 0 < v) (h : p' + (p / v + 1) * v = p + B * 1) (hs : p'' + B * s = p' + v) (hp'' : p'' < B) (hvB : v ≤ B) : p'' = p % v := by
  have hd := Nat.div_add_mod p v
  have hm := Nat.mod_lt p hv
  generalize p / v = d at *
  generalize p % v = r at *
  rw [Nat.mul_comm] at hd
  rw [Nat.add_mul] at h
  have h2 : p'' + B * s = r + B := by omega
  rcases Nat.lt_or_ge s 2 with hh | hh
  · rcases Nat.eq_zero_or_pos s with e | e
    · subst e; omega
    · have : s = 1 := by omega
      subst this; omega
  · have := Nat.mul_le_mul_left B hh
    omega
end Go.Proofs.YtolbafckppafkaaGreatDoor

/-
  PACKAGE nat, TWELFTH PART: divide, the long way.
-/
set_option linter.unusedVariables false
set_option linter.unusedSimpArgs false
set_option linter.unnecessarySimpa false
namespace Go.Proofs.YtolbafckppafkaaGreatDoor
open Go.RowKit Pl

theorem Bw.rd_at {w : World} {g c : Nat} {u : List Int} (h : Bw w g c u) (i n : Nat) (hi : i + n ≤ u.length) : Rd w (some ⟨g, i, none⟩) ((u.drop i).take n) := by
  have hl : ((u.drop i).take n).length = n := by rw [List.length_take, List.length_drop]; omega
  refine ⟨(h.inr.drop i).take n, by rw [hl]; have := h.le; have := h.max; omega, fun _ => ⟨_, rfl, fun j hj => ?_⟩⟩
  rw [hl] at hj
  rw [add_at, h.cell (by omega)]
  rw [List.getD_eq_getElem?_getD, List.getD_eq_getElem?_getD, List.getElem?_take_of_lt hj, List.getElem?_drop]
theorem slice_len {A : Option Addr} {n m c : Nat} (h : n = m) : Value.slice A n c = .slice A m c := by rw [h]
theorem J_getD_lt (u : List Int) (i : Nat) (o : List Int) (k : Nat) (hi : i ≤ u.length) (hk : k < i) : (J u i o).getD k 0 = u.getD k 0 := by
  unfold J
  rw [List.getD_eq_getElem?_getD, List.getD_eq_getElem?_getD, List.append_assoc, List.getElem?_append_left (by rw [List.length_take]; omega), List.getElem?_take_of_lt hk]
theorem J_drop (u : List Int) (i : Nat) (o : List Int) (n : Nat) (hi : i ≤ u.length) (ho : o.length = n) : ((J u i o).drop i).take n = o := by
  unfold J
  have hl : (u.take i).length = i := by rw [List.length_take]; omega
  rw [List.append_assoc, List.drop_append_of_le_length (by omega), List.drop_of_length_le (by omega), List.nil_append, List.take_append_of_le_length (by omega), List.take_of_length_le (by omega)]
theorem J_J (u : List Int) (i : Nat) (o o' : List Int) (hi : i + o.length ≤ u.length) (h : o'.length = o.length) : J (J u i o) i o' = J u i o' := by
  have hl : (u.take i).length = i := by rw [List.length_take]; omega
  unfold J
  rw [h]
  congr 1
  · congr 1
    rw [List.append_assoc, List.take_append_of_le_length (by omega), List.take_of_length_le (by omega)]
  · rw [List.drop_append, List.length_append, hl, Nat.sub_self, List.drop_zero]
    rw [List.drop_of_length_le (by rw [List.length_append]; omega), List.nil_append]
theorem div_inv (U U' Q V p' : List Int) (i x : Nat) (hrV : InR V) (hU : i < U.length) (hU' : i + V.length < U'.length) (hQ : i < Q.length) (hp' : p'.length = V.length + 1)
    (h1 : val (U.drop (i + 1)) = val (Q.drop (i + 1)) * val V + val (U'.drop (i + 1))) (h2 : val (U'.drop (i + 1)) < val V) (h3 : ∀ k, k < i + 1 → U'.getD k 0 = U.getD k 0)
    (hx : val p' + x * val V = val ((U'.drop i).take (V.length + 1))) (hlt : val p' < val V) :
    val (U.drop i) = val ((Q.set i (x : Int)).drop i) * val V + val ((J U' i p').drop i) ∧ val ((J U' i p').drop i) < val V ∧ ∀ k, k < i → (J U' i p').getD k 0 = U.getD k 0 := by
  obtain ⟨a1, a2, a3⟩ := div_round U' Q V p' i x hrV h2 hU' hp' hx hQ
  have hJ : J U' i p' = U'.take i ++ p' ++ U'.drop (i + V.length + 1) := by unfold J; rw [hp', Nat.add_assoc]
  rw [← hJ] at a1
  refine ⟨?_, by rw [a1]; exact hlt, fun k hk => by rw [J_getD_lt _ _ _ _ (by omega) hk]; exact h3 k (by omega)⟩
  rw [a1, a3, drop_val U i hU, h1]
  rw [drop_val U' i (by omega), h3 i (by omega)] at a2
  rw [Nat.mul_add, Nat.add_mul, Nat.mul_assoc]
  omega
set_option maxRecDepth 100000 in
set_option maxHeartbeats 4000000 in
theorem divide_long (A A' : Option Addr) (c c' : Nat) (l m : List Int) (w : World) (h : Rd w A l) (h' : Rd w A' m) (hl : Norm l) (hm : Norm m) (hl8 : l.length ≤ 8190) (hm8 : m.length ≤ 8190) (hc : l.length ≤ c) (hc' : m.length ≤ c') (hv : val m ≤ val l) (h2 : 2 ≤ m.length) :
    Calls Tryz.prog 92 #[.slice A l.length c, .slice A' m.length c'] w fun e w' =>
      ∃ B d B' d', e = .returned (.tuple #[.slice B (words (val l / val m)).length d, .slice B' (words (val l % val m)).length d']) ∧
        Ow w' w.heap.size B d (words (val l / val m)) ∧ Ow w' w.heap.size B' d' (words (val l % val m)) ∧ Below w.heap.size w w' := by
  have hmlen : m.length ≤ l.length := by
    have := hm.len_le (k := l.length)
    exact this.2 (Nat.lt_of_le_of_lt hv (val_lt hl.1))
  have C2 := Lib.hid (Compare_any A A' c c' l m w h hc h' hc')
  have K1 : cmpN (val l) (val m) = 0 ∨ cmpN (val l) (val m) = 1 := by
    unfold cmpN; rw [if_neg (by omega)]; split <;> simp
  generalize cmpN (val l) (val m) = q at *
  have hq : 0 ≤ q := by omega
  have hd : decide (q < 0) = false := by simpa using hq
  have hn1 : ((m.length : Int) == 1) = false := beq_eq_false_iff_ne.2 (by omega)
  obtain ⟨ad, rfl, hcell⟩ := h'.at_ (i := m.length - 1) (by omega)
  have ht := h'.inr.getD (m.length - 1)
  have htn : m.getD (m.length - 1) 0 ≠ 0 := by
    intro e
    exact hm.2 (by rw [last_getD (by omega), e])
  obtain ⟨t, het⟩ := Int.eq_ofNat_of_zero_le ht.1
  have ht0 : 0 < t := by omega
  have ht1 : t < 4294967296 := by omega
  rw [het] at hcell
  have HT := Lib.hid het
  have i1 : ((m.length : Int) - 1).toNat = m.length - 1 := by omega
  have HN := Lib.hid (And.intro hl (And.intro hm hv))
  clear K1 ht htn het hl hm hv
  go_enter Tryz.func92, Tryz.ntmps92
  go_wp2_with fail
  refine C2.out.mono ?_
  rintro e w' ⟨rfl, n0, rfl⟩
  have hb0 := below_drawn w n0
  go_wp2_with fail
  refine (lz_any t _ ht0 ht1).mono ?_
  rintro e w1 ⟨n, bl, rfl, hnb, hbl, htl, htu, rfl⟩
  have HS := Lib.hid (And.intro hnb (And.intro hbl (And.intro htl htu)))
  have hn32 : n < 32 := by omega
  have wn : IntKind.u64.wrap (n : Int) = (n : Int) := by rw [wrap_u64']; omega
  clear hnb hbl htl htu
  go_wp2_with fail
  refine (up_any (some ad) c' m n _ (h'.below hb0) hn32 (by omega)).mono ?_
  rintro e w1 ⟨gv, o, rfl, ho, hKo, hvo, hB1, hgv⟩
  have hB1' : Below w.heap.size w w1 := below_trans hb0 hB1
  have hgv' : w.heap.size ≤ gv := hgv
  obtain ⟨V, hV⟩ : ∃ V, V = words (val m * 2 ^ n) := ⟨_, rfl⟩
  have hnu := norm_up m (m.length - 1) n bl h'.inr (by omega) HS.out.1 HS.out.2.1 (by have := HS.out.2.2.1; rw [HT.out]; exact this) (by have := HS.out.2.2.2; rw [HT.out]; exact this)
  rw [← hV] at hnu
  have hcw := cut_words hKo.inr
  rw [hvo, ← hV] at hcw
  have T := cut_any (some ⟨gv, 0, none⟩) (m.length + 1) o w1 hKo.rd hKo.le
  rw [hcw, hnu.1, show m.length - 1 + 1 = m.length by omega, ho] at T
  have hKV := hKo.take (cut o).length
  rw [← cut_take, hcw] at hKV
  have TH := Lib.hid T
  have HKV := Lib.hid hKV
  have HVL := Lib.hid (show V.length = m.length by have := hnu.1; omega)
  have HVT := Lib.hid hnu.2
  have HVV := Lib.hid hV
  have HB1 := Lib.hid hB1'
  have HGV := Lib.hid hgv'
  clear T hKV hnu hV hcw hvo hKo ho hB1 hB1' hgv hgv' hb0
  go_wp2_with fail
  refine TH.out.mono ?_
  rintro e w1' ⟨rfl, rfl⟩
  go_wp2_with fail
  refine (up_any A c l n _ (h.below HB1.out) hn32 (by omega)).mono ?_
  rintro e w2 ⟨gu, U, rfl, hU, hKU, hvU, hB2, hgu⟩
  have hB2' : Below w.heap.size w w2 := HB1.out.trans (hB2.mono HB1.out.size)
  have hVU : gv < gu := Nat.lt_of_lt_of_le HKV.out.lt hgu
  have hKV2 : Bw w2 gv (m.length + 1) V := HKV.out.below hB2 HKV.out.lt
  have HKU := Lib.hid hKU
  have HVU := Lib.hid hvU
  have HUL := Lib.hid hU
  have HB2 := Lib.hid hB2'
  have HGU := Lib.hid hVU
  have HKV2 := Lib.hid hKV2
  clear hKU hvU hU hB2 hB2' hVU hKV2 hgu HKV TH
  obtain ⟨lq, hlq⟩ : ∃ lq, lq + m.length = l.length + 1 := ⟨l.length + 1 - m.length, by omega⟩
  have hmk := make_words ((l.length : Int) + 1 - m.length) lq (by omega) (by omega)
  have hlq0 : 1 ≤ lq := by omega
  have hlq1 : lq ≤ 8191 := by omega
  have HLQ := Lib.hid hlq
  clear hlq
  go_wp2
  have hB3 : Below w.heap.size w (w2.alloc (.cells (cellsOf (List.replicate lq 0)) 43)) := HB2.out.alloc HB2.out.size _
  have hKQ : Bw (w2.alloc (.cells (cellsOf (List.replicate lq 0)) 43)) w2.heap.size lq (List.replicate lq 0) := by
    have e := Bw.of_blk (Blk.new w2 43 (cellsOf (List.replicate lq 0))) (InR.replicate _ (by omega) (by omega)) (by have := HLQ.out; simp; omega)
    rwa [List.length_replicate] at e
  have hKU3 := HKU.out.alloc (.cells (cellsOf (List.replicate lq 0)) 43)
  have hKV3 := HKV2.out.alloc (.cells (cellsOf (List.replicate lq 0)) 43)
  have hstart : val (U.drop lq) < val V := by
    rw [HVV.out, val_words]
    exact start_lt l m U (m.length - 1) n lq HN.out.2.1 (by omega) HUL.out HN.out.1.1 HVU.out (by have := HLQ.out; omega) HKU.out.inr
  have hgq1 : gu < w2.heap.size := HKU.out.lt
  have hgq2 : gv < w2.heap.size := HKV2.out.lt
  have hgq3 : w.heap.size ≤ w2.heap.size := HB2.out.size
  generalize hgq : w2.heap.size = gq at *
  clear hmk hgq
  go_loopw [11] (fun iv wr => ∃ (j : Nat) (U' Q : List Int), j ≤ lq ∧ iv = .int .i64 ((j : Int) - 1) ∧ U'.length ≤ l.length + 1 ∧ l.length + 1 ≤ U'.length ∧ Q.length ≤ lq ∧ lq ≤ Q.length ∧ Bw wr gu (l.length + 1) U' ∧ Bw wr gq lq Q ∧ Bw wr gv (m.length + 1) V ∧ Below w.heap.size w wr ∧
      Hid (val (U.drop j) = val (Q.drop j) * val V + val (U'.drop j) ∧ val (U'.drop j) < val V ∧ ∀ i, i < j → U'.getD i 0 = U.getD i 0)) (fun iv _ => (intOf iv + 1).toNat)
  case atStart =>
    have hU := HUL.out
    refine ⟨lq, U, List.replicate lq 0, Nat.le_refl _, rfl, by omega, by omega, by simp, by simp, hKU3, hKQ, hKV3, hB3, ?_⟩
    show _ = _ ∧ _
    refine ⟨?_, hstart, fun _ _ => rfl⟩
    rw [List.drop_of_length_le (l := List.replicate lq 0) (by simp)]; simp [val]
  case round =>
    obtain ⟨j, U', Q, hj, rfl, hu1, hu2, hq1, hq2, hKU', hKQ', hKV', hB', HV⟩ := hrel
    clear hB3 hKQ hKU3 hKV3
    rcases Nat.eq_zero_or_pos j with h0 | h0
    · subst h0
      as_aux_lemma =>
        have hp2 : 0 < 2 ^ n := Nat.pow_pos (by omega)
        have hinv := HV.out
        rw [List.drop_zero, List.drop_zero, List.drop_zero, HVU.out, HVV.out, val_words] at hinv
        obtain ⟨hq1', hr1'⟩ := unshift hp2 hinv.1 hinv.2.1
        have hUV := hinv.2.1
        have hcwq := cut_words hKQ'.inr
        rw [hq1'] at hcwq
        have T1 : ∀ W, Bw W gq lq Q → Calls Tryz.prog 94 #[.slice (some ⟨gq, 0, none⟩) lq lq] W fun e w' => e = .returned (.slice (some ⟨gq, 0, none⟩) (words (val l / val m)).length lq) ∧ W = w' := by
          intro W hW
          have := cut_any (some ⟨gq, 0, none⟩) lq Q W hW.rd hW.le
          rwa [show Q.length = lq by omega, hcwq] at this
        have hUm : val (U'.take m.length) = val U' := by
          have e := val_take_drop U' m.length (by omega)
          have h1 := val_lt (hKV'.inr)
          rw [HVL.out, HVV.out, val_words] at h1
          have h3 : val (U'.drop m.length) = 0 := by
            rcases Nat.eq_zero_or_pos (val (U'.drop m.length)) with e0 | e0
            · exact e0
            · have h4 := Nat.mul_le_mul_left (4294967296 ^ m.length) e0
              rw [Nat.mul_one] at h4
              exact absurd (Nat.lt_of_le_of_lt (Nat.le_trans h4 (by rw [e]; exact Nat.le_add_left _ _)) (Nat.lt_trans hUV h1)) (Nat.lt_irrefl _)
          rw [e, h3, Nat.mul_zero, Nat.add_zero]
        have hcwu := cut_words (hKU'.inr.take m.length)
        rw [hUm] at hcwu
        have T2 : ∀ W, Bw W gu (l.length + 1) U' → Calls Tryz.prog 94 #[.slice (some ⟨gu, 0, none⟩) m.length (l.length + 1)] W fun e w' => e = .returned (.slice (some ⟨gu, 0, none⟩) (words (val U')).length (l.length + 1)) ∧ W = w' := by
          intro W hW
          have := cut_any (some ⟨gu, 0, none⟩) (l.length + 1) (U'.take m.length) W (hW.take _).rd (hW.take _).le
          rwa [show (U'.take m.length).length = m.length by rw [List.length_take]; omega, hcwu] at this
        have T3 : ∀ W, Bw W gu (l.length + 1) U' → Calls Tryz.prog 120 #[.slice (some ⟨gu, 0, none⟩) (words (val U')).length (l.length + 1), .int .u64 n] W fun e w' =>
            e = .returned (.slice (some ⟨gu, 0, none⟩) (words (val l % val m)).length (l.length + 1)) ∧ Ow w' w.heap.size (some ⟨gu, 0, none⟩) (l.length + 1) (words (val l % val m)) ∧ W.grownBy w' (some gu) := by
          intro W hW
          have hR := hW.take (cut (U'.take m.length)).length
          have e : U'.take (cut (U'.take m.length)).length = words (val U') := by
            have e1 := cut_take (U'.take m.length)
            rw [List.take_take, Nat.min_eq_left (by have := cut_le (U'.take m.length); rw [List.length_take] at this; omega), hcwu] at e1
            rw [hcwu]; exact e1.symm
          rw [e] at hR
          have := down_any w.heap.size (l.length + 1) (some ⟨gu, 0, none⟩) (words (val U')) n W (.inr ⟨gu, rfl, by have := HGV.out; have := HGU.out; omega, hR⟩) hn32
          rwa [val_words, hr1'] at this
        have hQO : ∀ W, Bw W gq lq Q → Ow W w.heap.size (some ⟨gq, 0, none⟩) lq (words (val l / val m)) := by
          intro W hW
          have := hW.take (cut Q).length
          rw [← cut_take, hcwq] at this
          exact .inr ⟨gq, rfl, hgq3, this⟩
        have H1 := Lib.hid T1
        have H2 := Lib.hid T2
        have H3 := Lib.hid T3
        have H4 := Lib.hid hQO
        have KU := Lib.hid hKU'
        have KQ := Lib.hid hKQ'
        have KB := Lib.hid hB'
        clear T1 T2 T3 hQO hKU' hKQ' hB' hKV' hcwu hcwq hUm hinv hq1' hr1' hUV hp2
        generalize hnq : (words (val l / val m)).length = nq at *
        generalize hnr : (words (val l % val m)).length = nr at *
        have HNQ := Lib.hid hnq
        have HNR := Lib.hid hnr
        clear hnq hnr
        generalize (words (val U')).length = nu at *
        go_wp2
        go_region_with (first | (go_at_call 94; (with_reducible refine (H1.out _ ?_).mono ?_); (first | exact KQ.out | exact KQ.out.drew | exact KQ.out.drewN _ | exact KQ5.out); rintro e w1 ⟨rfl, rfl⟩) | (go_at_call 94; (with_reducible refine (H2.out _ ?_).mono ?_); (first | exact KU.out | exact KU.out.drew | exact KU.out.drewN _); rintro e w1 ⟨rfl, rfl⟩) | (go_at_call 120; refine (H3.out _ ?_).mono ?_; (first | exact KU.out | exact KU.out.drew | exact KU.out.drewN _); rintro e w5 ⟨rfl, hO5, hG5⟩; have hne : some gq ≠ some gu := (by simp; omega); have KQ5 : Hid (Bw w5 gq lq Q) := (by first | exact KQ.out.drew.grown hG5 hne | exact KQ.out.grown hG5 hne | exact (KQ.out.drewN _).grown hG5 hne); clear hne; have HO5 := Lib.hid hO5; have HG5 := Lib.hid hG5; clear hO5 hG5))
        all_goals
          go_wp2
          go_ret2
          refine ⟨some ⟨gq, 0, none⟩, lq, some ⟨gu, 0, none⟩, l.length + 1, ret_2 (slice_len HNQ.out.symm) (slice_len HNR.out.symm), H4.out _ KQ5.out, HO5.out, ?_⟩
          have hG := HG5.out
          have hgu := HGU.out
          have hgv := HGV.out
          first
          | exact KB.out.grown hG KB.out.size (fun k hk => by injection hk with hk; omega)
          | exact KB.out.drew.grown hG KB.out.drew.size (fun k hk => by injection hk with hk; omega)
          | exact (below_drewN KB.out _).grown hG KB.out.size (fun k hk => by injection hk with hk; omega)
    · obtain ⟨i, rfl⟩ : ∃ i, j = i + 1 := ⟨j - 1, by omega⟩
      have e1 : (((i + 1 : Nat) : Int) - 1) = (i : Int) := by omega
      rw [e1]
      clear e1
      have hil := HLQ.out
      have hi1 : i + m.length < U'.length := by omega
      have him : (i : Int) + m.length + 1 ≤ l.length + 1 := by omega
      have k1 := Lib.hid hil
      clear hil
      obtain ⟨p, hp⟩ : ∃ p, p = (U'.drop i).take (m.length + 1) := ⟨_, rfl⟩
      have hpl : p.length = m.length + 1 := by rw [hp, List.length_take, List.length_drop]; omega
      have hVl := HVL.out
      have hVr := hKV'.inr
      have hpv := part_val U' V i hVr HV.out.2.1 (by omega)
      have hplt := part_lt U' V i hKU'.inr HV.out.2.1 (by omega)
      rw [hVl, ← hp] at hpv
      rw [← hpv.1] at hplt
      have hRp := hKU'.rd_at i (m.length + 1) (by omega)
      rw [← hp] at hRp
      have G := fun A => guess_any (some ⟨gu, i, none⟩) (some ⟨gv, 0, none⟩) A (m.length + 1) m.length p V wr hRp hKV'.rd hpl hVl h2 hplt (by have := HVT.out; exact this) (by omega)
      have GH := Lib.hid G
      have HP := Lib.hid hp
      have HPL := Lib.hid hpl
      have HPV := Lib.hid hpv
      have KU := Lib.hid hKU'
      have KQ := Lib.hid hKQ'
      have KV := Lib.hid hKV'
      have KB := Lib.hid hB'
      clear G hp hpl hVl hVr hpv hplt hRp hKU' hKQ' hKV' hB'
      go_wp2_with fail
      rw [show i + m.length + 1 - i = m.length + 1 by omega]
      refine (GH.out _).mono ?_
      rintro e w3 ⟨x, rfl, hxB, hx1, hx2, n1, rfl⟩
      have hx3 : (x : Int) ≤ 4294967295 := by omega
      have HX := Lib.hid (And.intro hx1 hx2)
      have HXB := Lib.hid hxB
      clear hx1 hx2 hxB
      have O := fun A => off_any gu (l.length + 1) i (m.length + 1) A (m.length + 1) x (some ⟨gv, 0, none⟩) U' V (wr.drewN n1) (KU.out.drewN n1) (by omega) (fun W hW => ((KV.out.drewN n1).grown hW (by have := HGU.out; simp; omega)).rd) (by have := HVL.out; omega) HXB.out (by omega)
      rw [HVL.out] at O
      have OH := Lib.hid O
      clear O
      go_wp2_with fail
      refine (OH.out _).mono ?_
      rintro e w4 ⟨p', b, rfl, hb1, hpl', hKU4, hG4, hval⟩
      have hKQ4 : Bw w4 gq lq Q := (KQ.out.drewN n1).grown hG4 (by simp; omega)
      have hKV4 : Bw w4 gv (m.length + 1) V := (KV.out.drewN n1).grown hG4 (by have := HGU.out; simp; omega)
      have hB4 : Below w.heap.size w w4 := (KB.out.trans (below_drewN (Below.refl _ _) n1)).trans ⟨hG4.os, hG4.tape, hG4.output, hG4.size, fun k hk => hG4.block k (Nat.lt_of_lt_of_le hk KB.out.size) (by have := HGV.out; have := HGU.out; simp; omega)⟩
      have hV0 : 0 < val V := by
        rw [HVV.out, val_words]
        have a1 : 0 < val m := HN.out.2.1.val_pos (by intro e; rw [e] at h2; simp at h2)
        exact Nat.mul_pos a1 (Nat.pow_pos (by omega))
      rw [← HP.out] at hval
      have HVAL := Lib.hid hval
      clear hval
      have hVB : Hid (val V < 4294967296 ^ (m.length + 1)) := by
        have a1 := val_lt KV.out.inr
        rw [HVL.out] at a1
        exact Nat.lt_of_lt_of_le a1 (Nat.pow_le_pow_right (by decide) (Nat.le_succ _))
      have wr1 : (b = 0 → x = val p / val V ∧ val p' = val p % val V) ∧ (b = 1 → x = val p / val V + 1) := by
        refine word_right HX.out.1 HX.out.2 hV0 HVAL.out hb1 ?_ hVB.out
        have := val_lt (J_inr U' i p' hKU4.inr)
        rwa [hpl'] at this
      have hv0 : b = 0 → val p' + x * val V = val p := fun e => by
        have := HVAL.out
        rw [e, Nat.mul_zero, Nat.add_zero] at this
        exact this
      rcases (show b = 0 ∨ b = 1 by omega) with rfl | rfl
      · as_aux_lemma =>
          obtain ⟨x1, x2⟩ := wr1.1 rfl
          have hInv := div_inv U U' Q V p' i x KV.out.inr (by have := HUL.out; omega) (by have := HVL.out; omega) (by omega) (by have := HVL.out; omega) HV.out.1 HV.out.2.1 HV.out.2.2 (by
            have e := HVL.out; rw [e, ← HP.out]; exact hv0 rfl) (by rw [x2]; exact Nat.mod_lt _ hV0)
          have HI := Lib.hid hInv
          have K1 := Lib.hid hKU4
          have K2 := Lib.hid hKQ4
          have K3 := Lib.hid hKV4
          have K4 := Lib.hid hB4
          have hJl := J_length U' i p' (by omega)
          have KJ := Lib.hid hJl
          clear hInv hJl hKU4 hKQ4 hKV4 hB4 hV0 hv0 wr1 hG4 hpl' x1 x2
          have hcq := K2.out.cell (j := i) (by omega)
          have hfq := K2.out.frozen i
          go_wp2
          go_roundw
          case rel =>
            have := KJ.out
            refine ⟨i, J U' i p', Q.set i (x : Int), by omega, rfl, by omega, by omega, by simp; omega, by simp; omega, K1.out.far (by simp; omega) _, K2.out.set i (by omega) (by omega), K3.out.far (by have := HGU.out; simp; omega) _, K4.out.setCell (by simp; omega) _, HI.out⟩
          case measure => first | (simp [intOf]; done) | (simp [intOf]; omega)
      · as_aux_lemma =>
          have HX1 := Lib.hid (wr1.2 rfl)
          have x3 : 1 ≤ x := by rw [HX1.out]; exact Nat.succ_pos _
          clear wr1
          have O := fun A => back_any gu (l.length + 1) i (m.length + 1) A (m.length + 1) (some ⟨gv, 0, none⟩) (J U' i p') V w4 hKU4 (by rw [J_length _ _ _ (by omega)]; omega) (fun W hW => (hKV4.grown hW (by have := HGU.out; simp; omega)).rd) (by have := HVL.out; omega) (by omega)
          rw [HVL.out] at O
          have OH2 := Lib.hid O
          clear O
          go_wp2_with fail
          refine (OH2.out _).mono ?_
          rintro e w5 ⟨pp, s, rfl, hppl, hKU5', hG5, hs⟩
          rw [J_J U' i p' pp (by omega) (by omega)] at hKU5'
          rw [J_drop U' i p' (m.length + 1) (by omega) hpl'] at hs
          have HSV := Lib.hid hs
          clear hs
          have hKU5 := hKU5'
          have hKQ5 : Bw w5 gq lq Q := hKQ4.grown hG5 (by simp; omega)
          have hKV5 : Bw w5 gv (m.length + 1) V := hKV4.grown hG5 (by have := HGU.out; simp; omega)
          have hB5 : Below w.heap.size w w5 := hB4.trans ⟨hG5.os, hG5.tape, hG5.output, hG5.size, fun k hk => hG5.block k (Nat.lt_of_lt_of_le hk hB4.size) (by have := HGV.out; have := HGU.out; simp; omega)⟩
          have x2 : val pp = val p % val V := by
            refine word_back hV0 (by rw [← HX1.out]; exact HVAL.out) HSV.out ?_ (Nat.le_of_lt hVB.out)
            have := val_lt (J_inr U' i pp hKU5.inr)
            rwa [hppl] at this
          clear hKU5'
          have hInv := div_inv U U' Q V pp i (val p / val V) KV.out.inr (by have := HUL.out; omega) (by have := HVL.out; omega) (by omega) (by have := HVL.out; omega) HV.out.1 HV.out.2.1 HV.out.2.2 (by
            have e := HVL.out; rw [e, ← HP.out, x2]; have := Nat.div_add_mod (val p) (val V); rw [Nat.mul_comm, Nat.add_comm] at this; exact this) (by rw [x2]; exact Nat.mod_lt _ hV0)
          have HI : Hid True := trivial
          have K1 := Lib.hid hKU5
          have K2 := Lib.hid hKQ5
          have K3 := Lib.hid hKV5
          have K4 := Lib.hid hB5
          have hJl := J_length U' i pp (by omega)
          have KJ := Lib.hid hJl
          obtain ⟨y, hy⟩ : ∃ y, y = val p / val V := ⟨_, rfl⟩
          have x1 := HX1.out
          rw [← hy] at x1 hInv
          have xe : (x : Int) - 1 = (y : Int) := by omega
          have hyB : y < 4294967296 := by omega
          have HY := Lib.hid hInv
          clear hInv hJl hKU4 hKQ4 hKV4 hB4 hKU5 hKQ5 hKV5 hB5 hV0 hv0 hG4 hG5 hpl' x1 x2 hy
          have hcq := K2.out.cell (j := i) (by omega)
          have hfq := K2.out.frozen i
          go_wp2
          go_roundw
          case rel =>
            have := KJ.out
            refine ⟨i, J U' i pp, Q.set i (y : Int), by omega, rfl, by omega, by omega, by simp; omega, by simp; omega, K1.out.far (by simp; omega) _, K2.out.set i (by omega) (by omega), K3.out.far (by have := HGU.out; simp; omega) _, K4.out.setCell (by simp; omega) _, HY.out⟩
          case measure => first | (simp [intOf]; done) | (simp [intOf]; omega)
end Go.Proofs.YtolbafckppafkaaGreatDoor

/-
  PACKAGE nat, THIRTEENTH PART: divide, DivMod, Gcd.
-/
set_option linter.unusedVariables false
set_option linter.unusedSimpArgs false
set_option linter.unnecessarySimpa false
namespace Go.Proofs.YtolbafckppafkaaGreatDoor
open Go.RowKit Pl

theorem divide_any (A A' : Option Addr) (c c' : Nat) (l m : List Int) (w : World) (h : Rd w A l) (h' : Rd w A' m) (hl : Norm l) (hm : Norm m) (hl8 : l.length ≤ 8190) (hm8 : m.length ≤ 8190) (hc : l.length ≤ c) (hc' : m.length ≤ c') (h0 : m ≠ []) :
    Calls Tryz.prog 92 #[.slice A l.length c, .slice A' m.length c'] w fun e w' =>
      ∃ B d B' d', e = .returned (.tuple #[.slice B (words (val l / val m)).length d, .slice B' (words (val l % val m)).length d']) ∧
        Ow w' w.heap.size B d (words (val l / val m)) ∧ Ow w' w.heap.size B' d' (words (val l % val m)) ∧ Below w.heap.size w w' := by
  by_cases hv : val l < val m
  · exact divide_less A A' c c' l m w h h' hl hl8 hc hc' hv
  · have hlen : 0 < m.length := by
      cases m with
      | nil => exact absurd rfl h0
      | cons x xs => simp
    by_cases h1 : m.length = 1
    · exact divide_one A A' c c' l m w h h' hm hl8 hc hc' (by omega) h1
    · exact divide_long A A' c c' l m w h h' hl hm hl8 hm8 hc hc' (by omega) (by omega)

set_option maxHeartbeats 400000 in
theorem DivMod_any (A A' : Option Addr) (c c' : Nat) (l m : List Int) (w : World) (h : Rd w A l) (h' : Rd w A' m) (hl : Norm l) (hm : Norm m) (hl8 : l.length ≤ 8190) (hm8 : m.length ≤ 8190) (hc : l.length ≤ c) (hc' : m.length ≤ c') (h0 : m ≠ []) :
    Calls Tryz.prog 79 #[.slice A l.length c, .slice A' m.length c'] w fun e w' =>
      ∃ B d B' d', e = .returned (.tuple #[.slice B (words (val l / val m)).length d, .slice B' (words (val l % val m)).length d', .int .i64 0]) ∧
        Ow w' w.heap.size B d (words (val l / val m)) ∧ Ow w' w.heap.size B' d' (words (val l % val m)) ∧ Below w.heap.size w w' := by
  have C1 := Lib.hid (checked_ok A A' c c' l m w h h' hl (by omega) hm (by omega))
  have C2 := Lib.hid (divide_any A A' c c' l m w h h' hl hm hl8 hm8 hc hc' h0)
  have hlen : ((m.length : Int) == 0) = false := by
    cases m with
    | nil => exact absurd rfl h0
    | cons x xs => exact beq_eq_false_iff_ne.2 (by simp only [List.length_cons]; omega)
  go_enter Tryz.func79, Tryz.ntmps79
  go_wp2_with fail
  refine C1.out.mono ?_
  rintro e w' ⟨rfl, rfl⟩
  go_wp2_with fail
  refine C2.out.mono ?_
  rintro e w1 ⟨B, d, B', d', rfl, hO, hO', hB⟩
  have HO := Lib.hid hO
  have HO' := Lib.hid hO'
  have HB := Lib.hid hB
  clear hO hO' hB
  go_wp2
  go_ret3
  exact ⟨_, _, _, _, rfl, HO.out, HO'.out, HB.out⟩

set_option maxHeartbeats 1000000 in
theorem Gcd_any (A A' : Option Addr) (c c' : Nat) (l m : List Int) (w : World) (h : Rd w A l) (h' : Rd w A' m) (hl : Norm l) (hm : Norm m) (hl8 : l.length ≤ 8190) (hm8 : m.length ≤ 8190) (hc : l.length ≤ c) (hc' : m.length ≤ c') :
    Calls Tryz.prog 64 #[.slice A l.length c, .slice A' m.length c'] w fun e w' =>
      ∃ B d, e = .returned (.tuple #[.slice B (words ((val l).gcd (val m))).length d, .int .i64 0]) ∧ Ow w' w.heap.size B d (words ((val l).gcd (val m))) ∧ Below w.heap.size w w' := by
  have C1 := Lib.hid (checked_ok A A' c c' l m w h h' hl (by omega) hm (by omega))
  have HM := Lib.hid hm
  have HL := Lib.hid hl
  clear hl hm
  go_enter Tryz.func64, Tryz.ntmps64
  go_wp2_with fail
  refine C1.out.mono ?_
  rintro e w' ⟨rfl, rfl⟩
  go_wp2_with fail
  refine (Clone_any A c l w h hc (by omega)).mono ?_
  rintro e w1 ⟨X, dx, rfl, hX, hB1⟩
  have HX := Lib.hid hX
  have HB1 := Lib.hid hB1
  clear hX hB1
  go_wp2_with fail
  refine (Clone_any A' c' m w1 (h'.below HB1.out) hc' (by omega)).mono ?_
  rintro e w2 ⟨Y, dy, rfl, hY, hB2⟩
  have HX2 := Lib.hid (HX.out.below hB2)
  have HY := Lib.hid (hY.mono HB1.out.size)
  have HB2 := Lib.hid (HB1.out.trans (hB2.mono HB1.out.size))
  clear hY hB2
  go_wp2
  go_loopg [7, 8] (val m) (fun gk xv yv wr => ∃ (X Y : Option Addr) (dx dy : Nat) (x y : List Int), xv = .slice X x.length dx ∧ yv = .slice Y y.length dy ∧ Ow wr w.heap.size X dx x ∧ Ow wr w.heap.size Y dy y ∧ x.length ≤ 8190 ∧ y.length ≤ 8190 ∧ Below w.heap.size w wr ∧
      Hid (Norm x ∧ Norm y ∧ (val x).gcd (val y) = (val l).gcd (val m) ∧ val y ≤ gk))
  case atStart => exact ⟨X, Y, dx, dy, l, m, rfl, rfl, HX2.out, HY.out, hl8, hm8, HB2.out, ⟨HL.out, HM.out, rfl, Nat.le_refl _⟩⟩
  case round =>
    obtain ⟨X, Y, dx, dy, x, y, rfl, rfl, hX, hY, hx8, hy8, hB, HV⟩ := hrel
    have KX := Lib.hid hX
    have KY := Lib.hid hY
    have KB := Lib.hid hB
    clear hX hY hB h h' HX HY HX2 HB2 C1
    by_cases hg : 2 < y.length
    · have hne : y ≠ [] := by intro e; rw [e] at hg; simp at hg
      have D := Lib.hid (divide_any X Y dx dy x y wr KX.out.rd KY.out.rd HV.out.1 HV.out.2.1 hx8 hy8 KX.out.le KY.out.le hne)
      clear hne
      go_wp2_with fail
      refine D.out.mono ?_
      rintro e w3 ⟨Q, dq, R, dr, rfl, hQ, hR, hB3⟩
      have KR := Lib.hid (hR.mono KB.out.size)
      have KY3 := Lib.hid (KY.out.below hB3)
      have KB3 := Lib.hid (KB.out.trans (hB3.mono KB.out.size))
      clear hQ hR hB3
      go_wp2
      go_roundg (val x % val y)
      case measure =>
        have h1 : 0 < val y := HV.out.2.1.val_pos (by intro e; rw [e] at hg; simp at hg)
        have := Nat.mod_lt (val x) h1
        have := HV.out.2.2.2
        omega
      case rel =>
        have h1 : 0 < val y := HV.out.2.1.val_pos (by intro e; rw [e] at hg; simp at hg)
        have h2 := Nat.mod_lt (val x) h1
        refine ⟨Y, R, dy, dr, y, words (val x % val y), rfl, rfl, KY3.out, KR.out, hy8, ?_, KB3.out, HV.out.2.1, words_norm _, ?_, ?_⟩
        · have h3 := words_len.2 (Nat.lt_trans h2 (val_lt HV.out.2.1.1))
          omega
        · rw [val_words, ← HV.out.2.2.1, Nat.gcd_comm (val x), Nat.gcd_rec (val y) (val x), Nat.gcd_comm]
        · rw [val_words]; exact Nat.le_refl _
    · obtain ⟨G, hG⟩ : ∃ G, G = (val l).gcd (val m) := ⟨_, rfl⟩
      have HG := Lib.hid hG
      clear hG
      rcases Nat.eq_zero_or_pos y.length with hy0 | hy0
      · obtain rfl : y = [] := List.eq_nil_of_length_eq_zero hy0
        have e1 : words ((val l).gcd (val m)) = x := by
          rw [← HV.out.2.2.1]
          show words ((val x).gcd 0) = x
          rw [Nat.gcd_zero_right, words_val HV.out.1]
        have E1 := Lib.hid e1
        clear e1
        go_wp2
        go_ret2
        refine ⟨X, dx, ret_2 (slice_len ?_) rfl, ?_, KB.out⟩
        · rw [E1.out]
        · rw [E1.out]; exact KX.out
      · have hne : y ≠ [] := by intro e; rw [e] at hy0; simp at hy0
        have hyl : ((y.length : Int) == 0) = false := beq_eq_false_iff_ne.2 (by omega)
        have D := Lib.hid (divide_any X Y dx dy x y wr KX.out.rd KY.out.rd HV.out.1 HV.out.2.1 hx8 hy8 KX.out.le KY.out.le hne)
        have hvy : 0 < val y := HV.out.2.1.val_pos hne
        have hyB : val y < 18446744073709551616 := by
          have a1 := val_lt HV.out.2.1.1
          exact Nat.lt_of_lt_of_le a1 (Nat.pow_le_pow_right (n := 4294967296) (by omega) (show y.length ≤ 2 by omega))
        have hr2 : (words (val x % val y)).length ≤ 2 := words_len.2 (Nat.lt_trans (Nat.mod_lt _ hvy) hyB)
        have HVY := Lib.hid (And.intro hvy hyB)
        have HR2 := Lib.hid hr2
        clear hne hvy hyB hr2
        go_wp2_with fail
        refine D.out.mono ?_
        rintro e w3 ⟨Q, dq, R, dr, rfl, hQ, hR, hB3⟩
        have KR := Lib.hid (hR.mono KB.out.size)
        have KY3 := Lib.hid (KY.out.below hB3)
        have KB3 := Lib.hid (KB.out.trans (hB3.mono KB.out.size))
        clear hQ hR hB3
        go_wp2_with fail
        refine (Uint64_any Y dy y w3 KY3.out.rd KY3.out.le HV.out.2.1 (by omega)).mono ?_
        rintro e w3' ⟨rfl, rfl⟩
        go_wp2_with fail
        refine (Uint64_any R dr _ w3 KR.out.rd KR.out.le (words_norm _) HR2.out).mono ?_
        rintro e w3' ⟨rfl, rfl⟩
        rw [val_words]
        obtain ⟨a, ha⟩ : ∃ a, a = val y := ⟨_, rfl⟩
        obtain ⟨b, hb⟩ : ∃ b, b = val x % val y := ⟨_, rfl⟩
        rw [← hb, ← ha]
        have haB : a < 18446744073709551616 := by rw [ha]; exact HVY.out.2
        have hbB : b < 18446744073709551616 := by rw [hb]; exact Nat.lt_trans (Nat.mod_lt _ HVY.out.1) HVY.out.2
        have hab : a.gcd b = G := by rw [HG.out, ← HV.out.2.2.1, ha, hb, Nat.gcd_comm (val x), Nat.gcd_rec (val y) (val x), Nat.gcd_comm]
        have HAB := Lib.hid (And.intro hab (And.intro haB hbB))
        clear ha hb haB hbB hab
        go_wp2
        go_loopw [13, 15] (fun av bv wr => ∃ a b n : Nat, av = .int .u64 a ∧ bv = .int .u64 b ∧ wr = w3.drewN n ∧ Hid (a.gcd b = G ∧ a < 18446744073709551616 ∧ b < 18446744073709551616)) (fun _ bv _ => (intOf bv).toNat)
        case atStart => exact ⟨a, b, 0, rfl, rfl, rfl, HAB.out⟩
        case round =>
          obtain ⟨a, b, n, rfl, rfl, rfl, HI⟩ := hrel
          clear HAB
          rcases Nat.eq_zero_or_pos b with hb0 | hb0
          · subst hb0
            have e0 : a = G := by have := HI.out.1; rwa [Nat.gcd_zero_right] at this
            have E0 := Lib.hid e0
            clear e0
            go_wp2_with fail
            refine (Of_any a _ HI.out.2.1).mono ?_
            rintro e w4 ⟨B, d, rfl, hO, hB4⟩
            have HO := Lib.hid hO
            have HB4 := Lib.hid hB4
            clear hO hB4
            go_wp2
            go_ret2
            refine ⟨B, d, ret_2 (slice_len ?_) rfl, ?_, ?_⟩
            · rw [← HG.out, E0.out]
            · rw [← HG.out, ← E0.out]; exact HO.out.mono KB3.out.size
            · exact (below_drewN KB3.out n).trans (HB4.out.mono KB3.out.size)
          · have hb1 : ((b : Int) != 0) = true := by rw [bne_iff_ne]; omega
            have hb2 : (b : Int) ≠ 0 := by omega
            obtain ⟨r, hr⟩ : ∃ r, r = a % b := ⟨_, rfl⟩
            have e1 : (a : Int) % (b : Int) = (r : Int) := by rw [hr]; rfl
            have hrb : r < b := by rw [hr]; exact Nat.mod_lt _ hb0
            have HR := Lib.hid hr
            clear hr
            go_wp2
            go_quiet (fail)
            go_wp2
            go_roundw
            case rel =>
              refine ⟨b, r, _, rfl, congrArg (Value.int .u64) e1, World.drewN_drewN .., ?_, HI.out.2.2, ?_⟩
              · rw [HR.out, Nat.gcd_comm, ← Nat.gcd_rec, Nat.gcd_comm]; exact HI.out.1
              · have := HI.out.2.2; omega
            case measure =>
              first | (simp [intOf]; done) | (simp [intOf]; omega)
end Go.Proofs.YtolbafckppafkaaGreatDoor
