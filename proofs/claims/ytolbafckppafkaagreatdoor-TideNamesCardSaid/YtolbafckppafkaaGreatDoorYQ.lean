/-
  Stable texts joined: Rq.
-/
import Derived.Test.YtolbafckppafkaaGreatDoorYO
import Derived.Test.YtolbafckppafkaaGreatDoorYI
import Derived.Test.YtolbafckppafkaaGreatDoorYP
/-
  PACKAGE ratio: Parse.
-/
set_option linter.unusedVariables false
set_option linter.unusedSimpArgs false
set_option linter.unnecessarySimpa false
namespace Go.Proofs.YtolbafckppafkaaGreatDoor
open Go.RowKit Pl

theorem ten_pow' {n a m : Nat} (h : n ≤ 1 + 3 * a) (hm : 4 + 10 * a ≤ 32 * m) : 10 ^ n ≤ 4294967296 ^ m := by
  have h1 : 10 ^ n ≤ 10 ^ (1 + 3 * a) := Nat.pow_le_pow_right (by omega) h
  have h2 : 10 ^ (1 + 3 * a) = 10 * (10 ^ 3) ^ a := by rw [Nat.pow_add, Nat.pow_mul]
  have h3 : (10 ^ 3 : Nat) ^ a ≤ (2 ^ 10) ^ a := Nat.pow_le_pow_left (by omega) _
  have h4 : 10 * (2 ^ 10 : Nat) ^ a ≤ 2 ^ 4 * (2 ^ 10) ^ a := Nat.mul_le_mul_right _ (by omega)
  have h5 : (2 ^ 4 * (2 ^ 10) ^ a : Nat) = 2 ^ (4 + 10 * a) := by rw [← Nat.pow_mul, ← Nat.pow_add]
  have h6 : (2 : Nat) ^ (4 + 10 * a) ≤ 2 ^ (32 * m) := Nat.pow_le_pow_right (by omega) hm
  have h7 : (2 : Nat) ^ (32 * m) = (2 ^ 32) ^ m := Nat.pow_mul ..
  have h8 : (2 ^ 32 : Nat) = 4294967296 := rfl
  rw [h7, h8] at h6
  rw [h2] at h1
  exact Nat.le_trans h1 (Nat.le_trans (Nat.mul_le_mul_left _ h3) (Nat.le_trans h4 (Nat.le_trans (Nat.le_of_eq h5) h6)))
set_option exponentiation.threshold 100000 in
theorem ten_pow {n : Nat} (h : n ≤ 65536) : 10 ^ n ≤ 4294967296 ^ 7000 := ten_pow' (a := 21845) h (by omega)
theorem numeral_all {l : List UInt8} (h : numeral l = true) : l.all digit = true := by
  unfold numeral at h; simp only [Bool.and_eq_true] at h; exact h.1.2
theorem parseN_ok {l : List UInt8} (h : (parseN l).2 = 0) : l.length ≤ 65536 ∧ numeral l = true ∧ (parseN l).1 = words (undec l) := by
  unfold parseN at *
  by_cases h1 : 65536 < l.length
  · rw [if_pos h1] at h; cases h
  · rw [if_neg h1] at h ⊢
    by_cases h2 : numeral l = true
    · rw [if_pos h2]; exact ⟨by omega, h2, rfl⟩
    · rw [if_neg h2] at h; cases h
theorem parseN_norm (l : List UInt8) : Norm (parseN l).1 ∧ (parseN l).1.length ≤ 7000 := by
  unfold parseN
  by_cases h1 : 65536 < l.length
  · rw [if_pos h1]; exact ⟨⟨InR.nil, by simp⟩, by simp⟩
  · rw [if_neg h1]
    by_cases h2 : numeral l = true
    · rw [if_pos h2]
      refine ⟨words_norm _, ?_⟩
      rw [words_len]
      exact Nat.lt_of_lt_of_le (undec_lt l (numeral_all h2)) (ten_pow (by omega))
    · rw [if_neg h2]; exact ⟨⟨InR.nil, by simp⟩, by simp⟩
theorem nParse_any (l : List UInt8) (w : World) (hs : l.length ≤ 9223372036854775807) :
    Calls Tryz.prog 75 #[.string ⟨l.toArray⟩] w fun e w' => ∃ B d, e = .returned (.tuple #[.slice B (parseN l).1.length d, .int .i64 (parseN l).2]) ∧ Ow w' w.heap.size B d (parseN l).1 ∧ Below w.heap.size w w' := by
  by_cases h : (parseN l).2 = 0
  · obtain ⟨h1, h2, h3⟩ := parseN_ok h
    rw [h, h3]
    exact Parse_yes l w h1 h2
  · have e1 : (parseN l).1 = [] := by
      unfold parseN at *
      by_cases h1 : 65536 < l.length
      · rw [if_pos h1]
      · rw [if_neg h1] at h ⊢
        by_cases h2 : numeral l = true
        · rw [if_pos h2] at h; exact absurd rfl h
        · rw [if_neg h2]
    refine (Parse_no l w hs h).mono ?_
    rintro e w' ⟨rfl, hB⟩
    rw [e1]
    exact ⟨none, 0, rfl, Ow.nil _ _, hB⟩

/-- what ratio.Parse reads ahead of the bar, behind it, and what it makes of them -/
def pNeg (l : List UInt8) : Bool := decide ((cutB l 47).1.head? = some 45)
def pTop (l : List UInt8) : List UInt8 := if (cutB l 47).1.head? = some 45 then (cutB l 47).1.tail else (cutB l 47).1
def pDen (l : List UInt8) : List Int × Int := if (cutB l 47).2.2 = true then parseN (cutB l 47).2.1 else ([1], 0)
def parseR (l : List UInt8) : F × Int :=
  if 65536 < l.length then (F.zero, 3)
  else if (parseN (pTop l)).2 ≠ 0 then (F.zero, 130)
  else if pNeg l = true ∧ (parseN (pTop l)).1.length = 0 then (F.zero, 130)
  else if (pDen l).2 ≠ 0 then (F.zero, 130)
  else if (cutB l 47).2.2 = true ∧ val (pDen l).1 ≤ 1 then (F.zero, 130)
  else if (val (parseN (pTop l)).1).gcd (val (pDen l).1) ≠ 1 then (F.zero, 130)
  else if 2048 < (parseN (pTop l)).1.length then (F.zero, 3)
  else if 2048 < (pDen l).1.length then (F.zero, 3)
  else (⟨pNeg l, (parseN (pTop l)).1, (pDen l).1⟩, 0)
theorem one_ow {w : World} {base : Nat} (hb : base ≤ w.heap.size) : Ow (w.alloc (.cells #[.int .u32 1] 43)) base (some ⟨w.heap.size, 0, none⟩) 1 [1] :=
  Ow.of_blk (l := [1]) hb (Blk.new _ _ _) (InR.one (by omega) (by omega)) (by simp)
theorem cutB_len (l : List UInt8) (c : UInt8) : (cutB l c).1.length ≤ l.length ∧ (cutB l c).2.1.length ≤ l.length := by
  unfold cutB; split
  · simp only [List.length_take, List.length_drop]; omega
  · simp
theorem pTop_len (l : List UInt8) : (pTop l).length ≤ l.length := by
  have := (cutB_len l 47).1
  unfold pTop; split
  · rw [List.length_tail]; omega
  · exact this
/-- an error told: nothing else -/
def PZ (w : World) (er : Int) (e : Ending) (w' : World) : Prop := ∃ v, e = .returned (.tuple #[v, .int .i64 er]) ∧ OwR w' w.heap.size v F.zero ∧ Below w.heap.size w w'

theorem kz (w : World) (t : TypeId) (cs : Array Value) : ∃ w0, w0 = w.alloc (.cells cs t) ∧ Hid (Kp w0 [(w.heap.size, t, cs)] [] w0) ∧ Hid (Below w.heap.size w w0) ∧ Hid (w.heap.size < w0.heap.size) :=
  ⟨_, rfl, Lib.hid ⟨Below.refl _ _, fun x hx => by rw [List.mem_singleton] at hx; subst hx; exact Blk.new w t cs, (fun x hx => by cases hx)⟩, Lib.hid ((Below.refl _ _).alloc (Nat.le_refl _) _), Lib.hid (Blk.new w t cs).lt⟩
set_option maxHeartbeats 1000000 in
theorem Parse0_long (l : List UInt8) (w : World) (hl : 65536 < l.length) (hs : l.length ≤ 9223372036854775807) :
    Calls Tryz.prog 46 #[.string ⟨l.toArray⟩] w fun e w' => ∃ v, e = .returned (.tuple #[v, .int .i64 3]) ∧ OwR w' w.heap.size v F.zero ∧ Below w.heap.size w w' := by
  obtain ⟨w0, e0, hK0⟩ := kq1 w 27 #[.bool false, .slice none 0 0, .slice none 0 0]
  have hk3 := hK0.b0
  have HK := Lib.hid hK0
  subst e0
  clear hK0
  have hf := hk3.frozen
  have hc0 : (w.alloc (.cells #[.bool false, .slice none 0 0, .slice none 0 0] 27)).cell? ⟨w.heap.size, 0, none⟩ = some (.bool false) := hk3.cell 0
  have hc1 : (w.alloc (.cells #[.bool false, .slice none 0 0, .slice none 0 0] 27)).cell? ⟨w.heap.size, 1, none⟩ = some (.slice none 0 0) := hk3.cell 1
  have hc2 : (w.alloc (.cells #[.bool false, .slice none 0 0, .slice none 0 0] 27)).cell? ⟨w.heap.size, 2, none⟩ = some (.slice none 0 0) := hk3.cell 2
  go_enter Tryz.func46, Tryz.ntmps46
  go_wp2_with fail
  refine bodyPost_ret (v := .tuple #[.agg #[.bool false, .slice none 0 0, .slice none 0 0], .int .i64 3]) (by simp [results, Tryz.results46, go_sem]) rfl ⟨_, rfl, OwR.zero _ _, ?_⟩
  first | exact (Below.refl _ _).alloc (Nat.le_refl _) _ | (repeat (first | exact (Below.refl _ _).alloc (Nat.le_refl _) _ | refine Below.setCell ?_ (Nat.le_refl _) _))

set_option maxHeartbeats 2000000 in
set_option maxRecDepth 100000 in
theorem Parse0_num (l : List UInt8) (w : World) (hs : l.length ≤ 65536) (h1 : (parseN (pTop l)).2 ≠ 0) :
    Calls Tryz.prog 46 #[.string ⟨l.toArray⟩] w fun e w' => ∃ v, e = .returned (.tuple #[v, .int .i64 130]) ∧ OwR w' w.heap.size v F.zero ∧ Below w.heap.size w w' := by
  have HCut := Lib.hid (fun W => Cut_any l 47 W (by omega))
  have hb1 := (cutB_len l 47).1
  have hb2 := (cutB_len l 47).2
  have ht := pTop_len l
  have HN := Lib.hid (fun W => nParse_any (pTop l) W (by omega))
  have HD := Lib.hid (fun W => nParse_any (cutB l 47).2.1 W (by omega))
  have HPre := Lib.hid (fun W => CutPrefix_any (cutB l 47).1 45 W)
  have h1' : ((parseN (pTop l)).2 != 0) = true := bne_iff_ne.2 h1
  try unfold pTop at *
  try unfold pNeg at *
  try unfold pDen at *
  generalize hcut : cutB l 47 = cc at *
  obtain ⟨tp, bt, both⟩ := cc
  simp only at *
  clear hcut
  generalize (if tp.head? = some 45 then tp.tail else tp) = dg at *
  generalize decide (tp.head? = some 45) = neg at *
  generalize parseN dg = nm at *
  obtain ⟨ns, ne⟩ := nm
  generalize parseN bt = dm at *
  obtain ⟨dn, de⟩ := dm
  simp only at *
  clear h1
  obtain ⟨w0, e0, HK, HB0, HG0⟩ := kz w 27 #[.bool false, .slice none 0 0, .slice none 0 0]
  go_enter Tryz.func46, Tryz.ntmps46
  go_wp2_with fail
  rw [← e0]
  clear e0
  refine (HCut.out w0).mono ?_
  rintro e w1 ⟨rfl, hB⟩
  have HK := Lib.hid (HK.out.below hB)
  clear hB HCut
  go_wp2_with fail
  refine (HPre.out w1).mono ?_
  rintro e w1' ⟨rfl, rfl⟩
  clear HPre
  go_wp2_with fail
  refine (HN.out w1).mono ?_
  rintro e w2 ⟨B1, b1, rfl, hO, hB⟩
  have HK := Lib.hid ((HK.out.below hB).add hO HK.out.size)
  clear hO hB HN
  have hk3 := HK.out.b0
  have hc0 : w2.cell? ⟨w.heap.size, 0, none⟩ = some (.bool false) := hk3.cell 0
  have hc1 : w2.cell? ⟨w.heap.size, 1, none⟩ = some (.slice none 0 0) := hk3.cell 1
  have hc2 : w2.cell? ⟨w.heap.size, 2, none⟩ = some (.slice none 0 0) := hk3.cell 2
  have hf := hk3.frozen
  go_wp2_with fail
  exact done_z 130 w w2 w.heap.size (Nat.le_refl _) hk3 (HB0.out.trans (HK.out.low.mono HB0.out.size)) (by
    intro w5 ha0 ha1 ha2 Q hQ
    exact bodyPost_ret (by simp [results, Tryz.results46, go_sem, ha0, ha1, ha2]) rfl hQ)

set_option maxHeartbeats 2000000 in
set_option maxRecDepth 100000 in
theorem Parse0_neg (l : List UInt8) (w : World) (hs : l.length ≤ 65536) (h1 : (parseN (pTop l)).2 = 0) (h2 : pNeg l = true) (h3 : (parseN (pTop l)).1.length = 0) :
    Calls Tryz.prog 46 #[.string ⟨l.toArray⟩] w fun e w' => ∃ v, e = .returned (.tuple #[v, .int .i64 130]) ∧ OwR w' w.heap.size v F.zero ∧ Below w.heap.size w w' := by
  have HCut := Lib.hid (fun W => Cut_any l 47 W (by omega))
  have hb1 := (cutB_len l 47).1
  have hb2 := (cutB_len l 47).2
  have ht := pTop_len l
  have HN := Lib.hid (fun W => nParse_any (pTop l) W (by omega))
  have HD := Lib.hid (fun W => nParse_any (cutB l 47).2.1 W (by omega))
  have HPre := Lib.hid (fun W => CutPrefix_any (cutB l 47).1 45 W)
  try unfold pTop at *
  try unfold pNeg at *
  try unfold pDen at *
  generalize hcut : cutB l 47 = cc at *
  obtain ⟨tp, bt, both⟩ := cc
  simp only at *
  clear hcut
  generalize (if tp.head? = some 45 then tp.tail else tp) = dg at *
  generalize decide (tp.head? = some 45) = neg at *
  generalize parseN dg = nm at *
  obtain ⟨ns, ne⟩ := nm
  generalize parseN bt = dm at *
  obtain ⟨dn, de⟩ := dm
  simp only at *
  subst h1 h2
  have h3' : ((ns.length : Int) == 0) = true := by rw [h3]; rfl
  clear h3
  obtain ⟨w0, e0, HK, HB0, HG0⟩ := kz w 27 #[.bool false, .slice none 0 0, .slice none 0 0]
  go_enter Tryz.func46, Tryz.ntmps46
  go_wp2_with fail
  rw [← e0]
  clear e0
  refine (HCut.out w0).mono ?_
  rintro e w1 ⟨rfl, hB⟩
  have HK := Lib.hid (HK.out.below hB)
  clear hB HCut
  go_wp2_with fail
  refine (HPre.out w1).mono ?_
  rintro e w1' ⟨rfl, rfl⟩
  clear HPre
  go_wp2_with fail
  refine (HN.out w1).mono ?_
  rintro e w2 ⟨B1, b1, rfl, hO, hB⟩
  have HK := Lib.hid ((HK.out.below hB).add hO HK.out.size)
  clear hO hB HN
  have hk3 := HK.out.b0
  have hc0 : w2.cell? ⟨w.heap.size, 0, none⟩ = some (.bool false) := hk3.cell 0
  have hc1 : w2.cell? ⟨w.heap.size, 1, none⟩ = some (.slice none 0 0) := hk3.cell 1
  have hc2 : w2.cell? ⟨w.heap.size, 2, none⟩ = some (.slice none 0 0) := hk3.cell 2
  have hf := hk3.frozen
  go_wp2_with fail
  exact done_z 130 w w2 w.heap.size (Nat.le_refl _) hk3 (HB0.out.trans (HK.out.low.mono HB0.out.size)) (by
    intro w5 ha0 ha1 ha2 Q hQ
    exact bodyPost_ret (by simp [results, Tryz.results46, go_sem, ha0, ha1, ha2]) rfl hQ)

set_option maxHeartbeats 2000000 in
set_option maxRecDepth 100000 in
theorem Parse0_den (l : List UInt8) (w : World) (hs : l.length ≤ 65536) (h1 : (parseN (pTop l)).2 = 0) (h2 : ¬ (pNeg l = true ∧ (parseN (pTop l)).1.length = 0)) (hb : (cutB l 47).2.2 = true) (h3 : (parseN (cutB l 47).2.1).2 ≠ 0) :
    Calls Tryz.prog 46 #[.string ⟨l.toArray⟩] w fun e w' => ∃ v, e = .returned (.tuple #[v, .int .i64 130]) ∧ OwR w' w.heap.size v F.zero ∧ Below w.heap.size w w' := by
  have HCut := Lib.hid (fun W => Cut_any l 47 W (by omega))
  have hb1 := (cutB_len l 47).1
  have hb2 := (cutB_len l 47).2
  have ht := pTop_len l
  have HN := Lib.hid (fun W => nParse_any (pTop l) W (by omega))
  have HD := Lib.hid (fun W => nParse_any (cutB l 47).2.1 W (by omega))
  have HPre := Lib.hid (fun W => CutPrefix_any (cutB l 47).1 45 W)
  try unfold pTop at *
  try unfold pNeg at *
  try unfold pDen at *
  generalize hcut : cutB l 47 = cc at *
  obtain ⟨tp, bt, both⟩ := cc
  simp only at *
  clear hcut
  generalize (if tp.head? = some 45 then tp.tail else tp) = dg at *
  generalize decide (tp.head? = some 45) = neg at *
  generalize parseN dg = nm at *
  obtain ⟨ns, ne⟩ := nm
  generalize parseN bt = dm at *
  obtain ⟨dn, de⟩ := dm
  simp only at *
  subst h1
  have hn' : neg = false ∨ (neg = true ∧ ((ns.length : Int) == 0) = false) := by
    cases neg
    · exact .inl rfl
    · exact .inr ⟨rfl, beq_eq_false_iff_ne.2 (fun e => h2 ⟨rfl, by omega⟩)⟩
  clear h2
  subst hb
  have h3' : (de != 0) = true := bne_iff_ne.2 h3
  clear h3
  rcases hn' with rfl | ⟨rfl, hnl⟩
  all_goals
    obtain ⟨w0, e0, HK, HB0, HG0⟩ := kz w 27 #[.bool false, .slice none 0 0, .slice none 0 0]
    go_enter Tryz.func46, Tryz.ntmps46
    go_wp2_with fail
    rw [← e0]
    clear e0
    refine (HCut.out w0).mono ?_
    rintro e w1 ⟨rfl, hB⟩
    have HK := Lib.hid (HK.out.below hB)
    clear hB HCut
    go_wp2_with fail
    refine (HPre.out w1).mono ?_
    rintro e w1' ⟨rfl, rfl⟩
    clear HPre
    go_wp2_with fail
    refine (HN.out w1).mono ?_
    rintro e w2 ⟨B1, b1, rfl, hO, hB⟩
    have HK := Lib.hid ((HK.out.below hB).add hO HK.out.size)
    clear hO hB HN
    go_wp2_with fail
    have HK := Lib.hid (HK.out.below ((Below.refl _ _).alloc (Nat.le_refl _) (.cells #[.int .u32 1] 43)))
    refine (HD.out _).mono ?_
    rintro e w3 ⟨B2, b2, rfl, hO, hB⟩
    have HK := Lib.hid ((HK.out.below hB).add hO HK.out.size)
    clear hO hB HD
    have hk3 := HK.out.b0
    have hc0 : w3.cell? ⟨w.heap.size, 0, none⟩ = some (.bool false) := hk3.cell 0
    have hc1 : w3.cell? ⟨w.heap.size, 1, none⟩ = some (.slice none 0 0) := hk3.cell 1
    have hc2 : w3.cell? ⟨w.heap.size, 2, none⟩ = some (.slice none 0 0) := hk3.cell 2
    have hf := hk3.frozen
    go_wp2_with fail
    exact done_z 130 w w3 w.heap.size (Nat.le_refl _) hk3 (HB0.out.trans (HK.out.low.mono HB0.out.size)) (by
      intro w5 ha0 ha1 ha2 Q hQ
      exact bodyPost_ret (by simp [results, Tryz.results46, go_sem, ha0, ha1, ha2]) rfl hQ)

set_option maxHeartbeats 2000000 in
set_option maxRecDepth 100000 in
theorem Parse0_one (l : List UInt8) (w : World) (hs : l.length ≤ 65536) (h1 : (parseN (pTop l)).2 = 0) (h2 : ¬ (pNeg l = true ∧ (parseN (pTop l)).1.length = 0)) (hb : (cutB l 47).2.2 = true) (h3 : (parseN (cutB l 47).2.1).2 = 0) (h4 : val (parseN (cutB l 47).2.1).1 ≤ 1) :
    Calls Tryz.prog 46 #[.string ⟨l.toArray⟩] w fun e w' => ∃ v, e = .returned (.tuple #[v, .int .i64 130]) ∧ OwR w' w.heap.size v F.zero ∧ Below w.heap.size w w' := by
  have HCut := Lib.hid (fun W => Cut_any l 47 W (by omega))
  have hb1 := (cutB_len l 47).1
  have hb2 := (cutB_len l 47).2
  have ht := pTop_len l
  have HN := Lib.hid (fun W => nParse_any (pTop l) W (by omega))
  have HD := Lib.hid (fun W => nParse_any (cutB l 47).2.1 W (by omega))
  have HPre := Lib.hid (fun W => CutPrefix_any (cutB l 47).1 45 W)
  try unfold pTop at *
  try unfold pNeg at *
  try unfold pDen at *
  generalize hcut : cutB l 47 = cc at *
  obtain ⟨tp, bt, both⟩ := cc
  simp only at *
  clear hcut
  generalize (if tp.head? = some 45 then tp.tail else tp) = dg at *
  generalize decide (tp.head? = some 45) = neg at *
  generalize parseN dg = nm at *
  obtain ⟨ns, ne⟩ := nm
  generalize parseN bt = dm at *
  obtain ⟨dn, de⟩ := dm
  simp only at *
  subst h1
  have hn' : neg = false ∨ (neg = true ∧ ((ns.length : Int) == 0) = false) := by
    cases neg
    · exact .inl rfl
    · exact .inr ⟨rfl, beq_eq_false_iff_ne.2 (fun e => h2 ⟨rfl, by omega⟩)⟩
  clear h2
  subst hb h3
  have h4' : cmpN (val dn) 1 ≤ 0 := by unfold cmpN; split; omega; split; omega; omega
  clear h4
  rcases hn' with rfl | ⟨rfl, hnl⟩
  all_goals
    obtain ⟨w0, e0, HK, HB0, HG0⟩ := kz w 27 #[.bool false, .slice none 0 0, .slice none 0 0]
    go_enter Tryz.func46, Tryz.ntmps46
    go_wp2_with fail
    rw [← e0]
    clear e0
    refine (HCut.out w0).mono ?_
    rintro e w1 ⟨rfl, hB⟩
    have HK := Lib.hid (HK.out.below hB)
    clear hB HCut
    go_wp2_with fail
    refine (HPre.out w1).mono ?_
    rintro e w1' ⟨rfl, rfl⟩
    clear HPre
    go_wp2_with fail
    refine (HN.out w1).mono ?_
    rintro e w2 ⟨B1, b1, rfl, hO, hB⟩
    have HK := Lib.hid ((HK.out.below hB).add hO HK.out.size)
    clear hO hB HN
    go_wp2_with fail
    have HK := Lib.hid (HK.out.below ((Below.refl _ _).alloc (Nat.le_refl _) (.cells #[.int .u32 1] 43)))
    refine (HD.out _).mono ?_
    rintro e w3 ⟨B2, b2, rfl, hO, hB⟩
    have HK := Lib.hid ((HK.out.below hB).add hO HK.out.size)
    clear hO hB HD
    go_wp2_with fail
    refine (cmp1_any B2 b2 (val dn) dn w3 (HK.out.own (B2, b2, dn) (by simp)).rd (HK.out.own (B2, b2, dn) (by simp)).le rfl).mono ?_
    rintro e w4 ⟨rfl, hB⟩
    have HK := Lib.hid (HK.out.below hB)
    clear hB
    generalize cmpN (val dn) 1 = z2 at *
    have hk3 := HK.out.b0
    have hc0 : w4.cell? ⟨w.heap.size, 0, none⟩ = some (.bool false) := hk3.cell 0
    have hc1 : w4.cell? ⟨w.heap.size, 1, none⟩ = some (.slice none 0 0) := hk3.cell 1
    have hc2 : w4.cell? ⟨w.heap.size, 2, none⟩ = some (.slice none 0 0) := hk3.cell 2
    have hf := hk3.frozen
    go_wp2_with fail
    exact done_z 130 w w4 w.heap.size (Nat.le_refl _) hk3 (HB0.out.trans (HK.out.low.mono HB0.out.size)) (by
      intro w5 ha0 ha1 ha2 Q hQ
      exact bodyPost_ret (by simp [results, Tryz.results46, go_sem, ha0, ha1, ha2]) rfl hQ)

set_option maxHeartbeats 2000000 in
set_option maxRecDepth 100000 in
theorem Parse0_gcd (l : List UInt8) (w : World) (hs : l.length ≤ 65536) (h1 : (parseN (pTop l)).2 = 0) (h2 : ¬ (pNeg l = true ∧ (parseN (pTop l)).1.length = 0)) (hb : (cutB l 47).2.2 = true) (h3 : (parseN (cutB l 47).2.1).2 = 0) (h4 : ¬ val (parseN (cutB l 47).2.1).1 ≤ 1) (h5 : (val (parseN (pTop l)).1).gcd (val (parseN (cutB l 47).2.1).1) ≠ 1) :
    Calls Tryz.prog 46 #[.string ⟨l.toArray⟩] w fun e w' => ∃ v, e = .returned (.tuple #[v, .int .i64 130]) ∧ OwR w' w.heap.size v F.zero ∧ Below w.heap.size w w' := by
  have hnn := parseN_norm (pTop l)
  have hnd := parseN_norm (cutB l 47).2.1
  have HCut := Lib.hid (fun W => Cut_any l 47 W (by omega))
  have hb1 := (cutB_len l 47).1
  have hb2 := (cutB_len l 47).2
  have ht := pTop_len l
  have HN := Lib.hid (fun W => nParse_any (pTop l) W (by omega))
  have HD := Lib.hid (fun W => nParse_any (cutB l 47).2.1 W (by omega))
  have HPre := Lib.hid (fun W => CutPrefix_any (cutB l 47).1 45 W)
  try unfold pTop at *
  try unfold pNeg at *
  try unfold pDen at *
  generalize hcut : cutB l 47 = cc at *
  obtain ⟨tp, bt, both⟩ := cc
  simp only at *
  clear hcut
  generalize (if tp.head? = some 45 then tp.tail else tp) = dg at *
  generalize decide (tp.head? = some 45) = neg at *
  generalize parseN dg = nm at *
  obtain ⟨ns, ne⟩ := nm
  generalize parseN bt = dm at *
  obtain ⟨dn, de⟩ := dm
  simp only at *
  subst h1
  have hn' : neg = false ∨ (neg = true ∧ ((ns.length : Int) == 0) = false) := by
    cases neg
    · exact .inl rfl
    · exact .inr ⟨rfl, beq_eq_false_iff_ne.2 (fun e => h2 ⟨rfl, by omega⟩)⟩
  clear h2
  subst hb h3
  have h4' : 0 < cmpN (val dn) 1 := by unfold cmpN; rw [if_neg (by omega), if_pos (by omega)]; omega
  clear h4
  have HG := Lib.hid (fun (A A' : Option Addr) (c c' : Nat) (W : World) (r1 : Rd W A ns) (r2 : Rd W A' dn) (k1 : ns.length ≤ c) (k2 : dn.length ≤ c') => Gcd_any A A' c c' ns dn W r1 r2 hnn.1 hnd.1 (by omega) (by first | omega | simp) k1 k2)
  generalize hgg : (val ns).gcd (val dn) = gg at *
  have h5' : (cmpN gg 1 != 0) = true := by rw [bne_iff_ne]; unfold cmpN; split; omega; split; omega; omega
  clear h5
  clear hgg
  rcases hn' with rfl | ⟨rfl, hnl⟩
  all_goals
    obtain ⟨w0, e0, HK, HB0, HG0⟩ := kz w 27 #[.bool false, .slice none 0 0, .slice none 0 0]
    go_enter Tryz.func46, Tryz.ntmps46
    go_wp2_with fail
    rw [← e0]
    clear e0
    refine (HCut.out w0).mono ?_
    rintro e w1 ⟨rfl, hB⟩
    have HK := Lib.hid (HK.out.below hB)
    clear hB HCut
    go_wp2_with fail
    refine (HPre.out w1).mono ?_
    rintro e w1' ⟨rfl, rfl⟩
    clear HPre
    go_wp2_with fail
    refine (HN.out w1).mono ?_
    rintro e w2 ⟨B1, b1, rfl, hO, hB⟩
    have HK := Lib.hid ((HK.out.below hB).add hO HK.out.size)
    clear hO hB HN
    go_wp2_with fail
    have HK := Lib.hid (HK.out.below ((Below.refl _ _).alloc (Nat.le_refl _) (.cells #[.int .u32 1] 43)))
    refine (HD.out _).mono ?_
    rintro e w3 ⟨B2, b2, rfl, hO, hB⟩
    have HK := Lib.hid ((HK.out.below hB).add hO HK.out.size)
    clear hO hB HD
    go_wp2_with fail
    refine (cmp1_any B2 b2 (val dn) dn w3 (HK.out.own (B2, b2, dn) (by simp)).rd (HK.out.own (B2, b2, dn) (by simp)).le rfl).mono ?_
    rintro e w4 ⟨rfl, hB⟩
    have HK := Lib.hid (HK.out.below hB)
    clear hB
    generalize cmpN (val dn) 1 = z2 at *
    go_wp2_with fail
    refine (HG.out B1 B2 b1 b2 _ (HK.out.own (B1, b1, ns) (by simp)).rd (HK.out.own (B2, b2, dn) (by simp)).rd (HK.out.own (B1, b1, ns) (by simp)).le (HK.out.own (B2, b2, dn) (by simp)).le).mono ?_
    rintro e w5 ⟨B3, b3, rfl, hO, hB⟩
    have HK := Lib.hid ((HK.out.below hB).add hO HK.out.size)
    clear hO hB HG
    go_wp2_with fail
    refine (cmp1_any B3 b3 gg (words gg) w5 (HK.out.own (B3, b3, words gg) (by simp)).rd (HK.out.own (B3, b3, words gg) (by simp)).le (val_words _)).mono ?_
    rintro e w6 ⟨rfl, hB⟩
    have HK := Lib.hid (HK.out.below hB)
    clear hB
    generalize cmpN gg 1 = z3 at *
    have hk3 := HK.out.b0
    have hc0 : w6.cell? ⟨w.heap.size, 0, none⟩ = some (.bool false) := hk3.cell 0
    have hc1 : w6.cell? ⟨w.heap.size, 1, none⟩ = some (.slice none 0 0) := hk3.cell 1
    have hc2 : w6.cell? ⟨w.heap.size, 2, none⟩ = some (.slice none 0 0) := hk3.cell 2
    have hf := hk3.frozen
    go_wp2_with fail
    exact done_z 130 w w6 w.heap.size (Nat.le_refl _) hk3 (HB0.out.trans (HK.out.low.mono HB0.out.size)) (by
      intro w5 ha0 ha1 ha2 Q hQ
      exact bodyPost_ret (by simp [results, Tryz.results46, go_sem, ha0, ha1, ha2]) rfl hQ)

set_option maxHeartbeats 2000000 in
set_option maxRecDepth 100000 in
theorem Parse0_gcd' (l : List UInt8) (w : World) (hs : l.length ≤ 65536) (h1 : (parseN (pTop l)).2 = 0) (h2 : ¬ (pNeg l = true ∧ (parseN (pTop l)).1.length = 0)) (hb : (cutB l 47).2.2 = false) (h5 : (val (parseN (pTop l)).1).gcd (val [1]) ≠ 1) :
    Calls Tryz.prog 46 #[.string ⟨l.toArray⟩] w fun e w' => ∃ v, e = .returned (.tuple #[v, .int .i64 130]) ∧ OwR w' w.heap.size v F.zero ∧ Below w.heap.size w w' := by
  have hnn := parseN_norm (pTop l)
  have hnd := parseN_norm (cutB l 47).2.1
  have HCut := Lib.hid (fun W => Cut_any l 47 W (by omega))
  have hb1 := (cutB_len l 47).1
  have hb2 := (cutB_len l 47).2
  have ht := pTop_len l
  have HN := Lib.hid (fun W => nParse_any (pTop l) W (by omega))
  have HD := Lib.hid (fun W => nParse_any (cutB l 47).2.1 W (by omega))
  have HPre := Lib.hid (fun W => CutPrefix_any (cutB l 47).1 45 W)
  try unfold pTop at *
  try unfold pNeg at *
  try unfold pDen at *
  generalize hcut : cutB l 47 = cc at *
  obtain ⟨tp, bt, both⟩ := cc
  simp only at *
  clear hcut
  generalize (if tp.head? = some 45 then tp.tail else tp) = dg at *
  generalize decide (tp.head? = some 45) = neg at *
  generalize parseN dg = nm at *
  obtain ⟨ns, ne⟩ := nm
  generalize parseN bt = dm at *
  obtain ⟨dn, de⟩ := dm
  simp only at *
  subst h1
  have hn' : neg = false ∨ (neg = true ∧ ((ns.length : Int) == 0) = false) := by
    cases neg
    · exact .inl rfl
    · exact .inr ⟨rfl, beq_eq_false_iff_ne.2 (fun e => h2 ⟨rfl, by omega⟩)⟩
  clear h2
  subst hb
  have HG := Lib.hid (fun (A A' : Option Addr) (c c' : Nat) (W : World) (r1 : Rd W A ns) (r2 : Rd W A' [1]) (k1 : ns.length ≤ c) (k2 : [1].length ≤ c') => Gcd_any A A' c c' ns [1] W r1 r2 hnn.1 ⟨InR.one (by omega) (by omega), by simp⟩ (by omega) (by first | omega | simp) k1 k2)
  generalize hgg : (val ns).gcd (val [1]) = gg at *
  have h5' : (cmpN gg 1 != 0) = true := by rw [bne_iff_ne]; unfold cmpN; split; omega; split; omega; omega
  clear h5
  clear hgg
  rcases hn' with rfl | ⟨rfl, hnl⟩
  all_goals
    obtain ⟨w0, e0, HK, HB0, HG0⟩ := kz w 27 #[.bool false, .slice none 0 0, .slice none 0 0]
    go_enter Tryz.func46, Tryz.ntmps46
    go_wp2_with fail
    rw [← e0]
    clear e0
    refine (HCut.out w0).mono ?_
    rintro e w1 ⟨rfl, hB⟩
    have HK := Lib.hid (HK.out.below hB)
    clear hB HCut
    go_wp2_with fail
    refine (HPre.out w1).mono ?_
    rintro e w1' ⟨rfl, rfl⟩
    clear HPre
    go_wp2_with fail
    refine (HN.out w1).mono ?_
    rintro e w2 ⟨B1, b1, rfl, hO, hB⟩
    have HK := Lib.hid ((HK.out.below hB).add hO HK.out.size)
    clear hO hB HN
    go_wp2_with fail
    have HK := Lib.hid ((HK.out.below ((Below.refl _ _).alloc (Nat.le_refl _) (.cells #[.int .u32 1] 43))).add (one_ow (Nat.le_refl _)) HK.out.size)
    refine (HG.out B1 (some ⟨w2.heap.size, 0, none⟩) b1 1 _ (HK.out.own (B1, b1, ns) (by simp)).rd (HK.out.own ((some ⟨w2.heap.size, 0, none⟩), 1, [1]) (by simp)).rd (HK.out.own (B1, b1, ns) (by simp)).le (HK.out.own ((some ⟨w2.heap.size, 0, none⟩), 1, [1]) (by simp)).le).mono ?_
    rintro e w5 ⟨B3, b3, rfl, hO, hB⟩
    have HK := Lib.hid ((HK.out.below hB).add hO HK.out.size)
    clear hO hB HG
    go_wp2_with fail
    refine (cmp1_any B3 b3 gg (words gg) w5 (HK.out.own (B3, b3, words gg) (by simp)).rd (HK.out.own (B3, b3, words gg) (by simp)).le (val_words _)).mono ?_
    rintro e w6 ⟨rfl, hB⟩
    have HK := Lib.hid (HK.out.below hB)
    clear hB
    generalize cmpN gg 1 = z3 at *
    have hk3 := HK.out.b0
    have hc0 : w6.cell? ⟨w.heap.size, 0, none⟩ = some (.bool false) := hk3.cell 0
    have hc1 : w6.cell? ⟨w.heap.size, 1, none⟩ = some (.slice none 0 0) := hk3.cell 1
    have hc2 : w6.cell? ⟨w.heap.size, 2, none⟩ = some (.slice none 0 0) := hk3.cell 2
    have hf := hk3.frozen
    go_wp2_with fail
    exact done_z 130 w w6 w.heap.size (Nat.le_refl _) hk3 (HB0.out.trans (HK.out.low.mono HB0.out.size)) (by
      intro w5 ha0 ha1 ha2 Q hQ
      exact bodyPost_ret (by simp [results, Tryz.results46, go_sem, ha0, ha1, ha2]) rfl hQ)

set_option maxHeartbeats 2000000 in
set_option maxRecDepth 100000 in
theorem Parse0_ln (l : List UInt8) (w : World) (hs : l.length ≤ 65536) (h1 : (parseN (pTop l)).2 = 0) (h2 : ¬ (pNeg l = true ∧ (parseN (pTop l)).1.length = 0)) (hb : (cutB l 47).2.2 = true) (h3 : (parseN (cutB l 47).2.1).2 = 0) (h4 : ¬ val (parseN (cutB l 47).2.1).1 ≤ 1) (h5 : (val (parseN (pTop l)).1).gcd (val (parseN (cutB l 47).2.1).1) = 1) (h6 : 2048 < (parseN (pTop l)).1.length ∨ 2048 < (parseN (cutB l 47).2.1).1.length) :
    Calls Tryz.prog 46 #[.string ⟨l.toArray⟩] w fun e w' => ∃ v, e = .returned (.tuple #[v, .int .i64 3]) ∧ OwR w' w.heap.size v F.zero ∧ Below w.heap.size w w' := by
  have hnn := parseN_norm (pTop l)
  have hnd := parseN_norm (cutB l 47).2.1
  have HCut := Lib.hid (fun W => Cut_any l 47 W (by omega))
  have hb1 := (cutB_len l 47).1
  have hb2 := (cutB_len l 47).2
  have ht := pTop_len l
  have HN := Lib.hid (fun W => nParse_any (pTop l) W (by omega))
  have HD := Lib.hid (fun W => nParse_any (cutB l 47).2.1 W (by omega))
  have HPre := Lib.hid (fun W => CutPrefix_any (cutB l 47).1 45 W)
  try unfold pTop at *
  try unfold pNeg at *
  try unfold pDen at *
  generalize hcut : cutB l 47 = cc at *
  obtain ⟨tp, bt, both⟩ := cc
  simp only at *
  clear hcut
  generalize (if tp.head? = some 45 then tp.tail else tp) = dg at *
  generalize decide (tp.head? = some 45) = neg at *
  generalize parseN dg = nm at *
  obtain ⟨ns, ne⟩ := nm
  generalize parseN bt = dm at *
  obtain ⟨dn, de⟩ := dm
  simp only at *
  subst h1
  have hn' : neg = false ∨ (neg = true ∧ ((ns.length : Int) == 0) = false) := by
    cases neg
    · exact .inl rfl
    · exact .inr ⟨rfl, beq_eq_false_iff_ne.2 (fun e => h2 ⟨rfl, by omega⟩)⟩
  clear h2
  subst hb h3
  have h4' : 0 < cmpN (val dn) 1 := by unfold cmpN; rw [if_neg (by omega), if_pos (by omega)]; omega
  clear h4
  have HG := Lib.hid (fun (A A' : Option Addr) (c c' : Nat) (W : World) (r1 : Rd W A ns) (r2 : Rd W A' dn) (k1 : ns.length ≤ c) (k2 : dn.length ≤ c') => Gcd_any A A' c c' ns dn W r1 r2 hnn.1 hnd.1 (by omega) (by first | omega | simp) k1 k2)
  generalize hgg : (val ns).gcd (val dn) = gg at *
  have h5' : cmpN gg 1 = 0 := by rw [h5]; rfl
  clear h5
  clear hgg
  have ln1 := hnn.2
  have ln2 := hnd.2
  by_cases h7 : 2048 < ns.length
  · clear h6
    rcases hn' with rfl | ⟨rfl, hnl⟩
    all_goals
      obtain ⟨w0, e0, HK, HB0, HG0⟩ := kz w 27 #[.bool false, .slice none 0 0, .slice none 0 0]
      go_enter Tryz.func46, Tryz.ntmps46
      go_wp2_with fail
      rw [← e0]
      clear e0
      refine (HCut.out w0).mono ?_
      rintro e w1 ⟨rfl, hB⟩
      have HK := Lib.hid (HK.out.below hB)
      clear hB HCut
      go_wp2_with fail
      refine (HPre.out w1).mono ?_
      rintro e w1' ⟨rfl, rfl⟩
      clear HPre
      go_wp2_with fail
      refine (HN.out w1).mono ?_
      rintro e w2 ⟨B1, b1, rfl, hO, hB⟩
      have HK := Lib.hid ((HK.out.below hB).add hO HK.out.size)
      clear hO hB HN
      go_wp2_with fail
      have HK := Lib.hid (HK.out.below ((Below.refl _ _).alloc (Nat.le_refl _) (.cells #[.int .u32 1] 43)))
      refine (HD.out _).mono ?_
      rintro e w3 ⟨B2, b2, rfl, hO, hB⟩
      have HK := Lib.hid ((HK.out.below hB).add hO HK.out.size)
      clear hO hB HD
      go_wp2_with fail
      refine (cmp1_any B2 b2 (val dn) dn w3 (HK.out.own (B2, b2, dn) (by simp)).rd (HK.out.own (B2, b2, dn) (by simp)).le rfl).mono ?_
      rintro e w4 ⟨rfl, hB⟩
      have HK := Lib.hid (HK.out.below hB)
      clear hB
      generalize cmpN (val dn) 1 = z2 at *
      go_wp2_with fail
      refine (HG.out B1 B2 b1 b2 _ (HK.out.own (B1, b1, ns) (by simp)).rd (HK.out.own (B2, b2, dn) (by simp)).rd (HK.out.own (B1, b1, ns) (by simp)).le (HK.out.own (B2, b2, dn) (by simp)).le).mono ?_
      rintro e w5 ⟨B3, b3, rfl, hO, hB⟩
      have HK := Lib.hid ((HK.out.below hB).add hO HK.out.size)
      clear hO hB HG
      go_wp2_with fail
      refine (cmp1_any B3 b3 gg (words gg) w5 (HK.out.own (B3, b3, words gg) (by simp)).rd (HK.out.own (B3, b3, words gg) (by simp)).le (val_words _)).mono ?_
      rintro e w6 ⟨rfl, hB⟩
      have HK := Lib.hid (HK.out.below hB)
      clear hB
      generalize cmpN gg 1 = z3 at *
      subst h5'
      have hk3 := HK.out.b0
      have hc0 : w6.cell? ⟨w.heap.size, 0, none⟩ = some (.bool false) := hk3.cell 0
      have hc1 : w6.cell? ⟨w.heap.size, 1, none⟩ = some (.slice none 0 0) := hk3.cell 1
      have hc2 : w6.cell? ⟨w.heap.size, 2, none⟩ = some (.slice none 0 0) := hk3.cell 2
      have hf := hk3.frozen
      go_wp2_with (go_at_call 62; refine (rlong_any _ _ _ _ (by first | omega | simp)).mono ?_; rintro e w' ⟨rfl, rfl⟩)
      exact done_z 3 w w6 w.heap.size (Nat.le_refl _) hk3 (HB0.out.trans (HK.out.low.mono HB0.out.size)) (by
        intro w5 ha0 ha1 ha2 Q hQ
        exact bodyPost_ret (by simp [results, Tryz.results46, go_sem, ha0, ha1, ha2]) rfl hQ)
  · have h8 : 2048 < dn.length := by omega
    clear h6
    rcases hn' with rfl | ⟨rfl, hnl⟩
    all_goals
      obtain ⟨w0, e0, HK, HB0, HG0⟩ := kz w 27 #[.bool false, .slice none 0 0, .slice none 0 0]
      go_enter Tryz.func46, Tryz.ntmps46
      go_wp2_with fail
      rw [← e0]
      clear e0
      refine (HCut.out w0).mono ?_
      rintro e w1 ⟨rfl, hB⟩
      have HK := Lib.hid (HK.out.below hB)
      clear hB HCut
      go_wp2_with fail
      refine (HPre.out w1).mono ?_
      rintro e w1' ⟨rfl, rfl⟩
      clear HPre
      go_wp2_with fail
      refine (HN.out w1).mono ?_
      rintro e w2 ⟨B1, b1, rfl, hO, hB⟩
      have HK := Lib.hid ((HK.out.below hB).add hO HK.out.size)
      clear hO hB HN
      go_wp2_with fail
      have HK := Lib.hid (HK.out.below ((Below.refl _ _).alloc (Nat.le_refl _) (.cells #[.int .u32 1] 43)))
      refine (HD.out _).mono ?_
      rintro e w3 ⟨B2, b2, rfl, hO, hB⟩
      have HK := Lib.hid ((HK.out.below hB).add hO HK.out.size)
      clear hO hB HD
      go_wp2_with fail
      refine (cmp1_any B2 b2 (val dn) dn w3 (HK.out.own (B2, b2, dn) (by simp)).rd (HK.out.own (B2, b2, dn) (by simp)).le rfl).mono ?_
      rintro e w4 ⟨rfl, hB⟩
      have HK := Lib.hid (HK.out.below hB)
      clear hB
      generalize cmpN (val dn) 1 = z2 at *
      go_wp2_with fail
      refine (HG.out B1 B2 b1 b2 _ (HK.out.own (B1, b1, ns) (by simp)).rd (HK.out.own (B2, b2, dn) (by simp)).rd (HK.out.own (B1, b1, ns) (by simp)).le (HK.out.own (B2, b2, dn) (by simp)).le).mono ?_
      rintro e w5 ⟨B3, b3, rfl, hO, hB⟩
      have HK := Lib.hid ((HK.out.below hB).add hO HK.out.size)
      clear hO hB HG
      go_wp2_with fail
      refine (cmp1_any B3 b3 gg (words gg) w5 (HK.out.own (B3, b3, words gg) (by simp)).rd (HK.out.own (B3, b3, words gg) (by simp)).le (val_words _)).mono ?_
      rintro e w6 ⟨rfl, hB⟩
      have HK := Lib.hid (HK.out.below hB)
      clear hB
      generalize cmpN gg 1 = z3 at *
      subst h5'
      have hk3 := HK.out.b0
      have hc0 : w6.cell? ⟨w.heap.size, 0, none⟩ = some (.bool false) := hk3.cell 0
      have hc1 : w6.cell? ⟨w.heap.size, 1, none⟩ = some (.slice none 0 0) := hk3.cell 1
      have hc2 : w6.cell? ⟨w.heap.size, 2, none⟩ = some (.slice none 0 0) := hk3.cell 2
      have hf := hk3.frozen
      go_wp2_with (go_at_call 62; refine (rlong_any _ _ _ _ (by first | omega | simp)).mono ?_; rintro e w' ⟨rfl, rfl⟩)
      exact done_z 3 w w6 w.heap.size (Nat.le_refl _) hk3 (HB0.out.trans (HK.out.low.mono HB0.out.size)) (by
        intro w5 ha0 ha1 ha2 Q hQ
        exact bodyPost_ret (by simp [results, Tryz.results46, go_sem, ha0, ha1, ha2]) rfl hQ)

set_option maxHeartbeats 2000000 in
set_option maxRecDepth 100000 in
theorem Parse0_ln' (l : List UInt8) (w : World) (hs : l.length ≤ 65536) (h1 : (parseN (pTop l)).2 = 0) (h2 : ¬ (pNeg l = true ∧ (parseN (pTop l)).1.length = 0)) (hb : (cutB l 47).2.2 = false) (h5 : (val (parseN (pTop l)).1).gcd (val [1]) = 1) (h6 : 2048 < (parseN (pTop l)).1.length) :
    Calls Tryz.prog 46 #[.string ⟨l.toArray⟩] w fun e w' => ∃ v, e = .returned (.tuple #[v, .int .i64 3]) ∧ OwR w' w.heap.size v F.zero ∧ Below w.heap.size w w' := by
  have hnn := parseN_norm (pTop l)
  have hnd := parseN_norm (cutB l 47).2.1
  have HCut := Lib.hid (fun W => Cut_any l 47 W (by omega))
  have hb1 := (cutB_len l 47).1
  have hb2 := (cutB_len l 47).2
  have ht := pTop_len l
  have HN := Lib.hid (fun W => nParse_any (pTop l) W (by omega))
  have HD := Lib.hid (fun W => nParse_any (cutB l 47).2.1 W (by omega))
  have HPre := Lib.hid (fun W => CutPrefix_any (cutB l 47).1 45 W)
  try unfold pTop at *
  try unfold pNeg at *
  try unfold pDen at *
  generalize hcut : cutB l 47 = cc at *
  obtain ⟨tp, bt, both⟩ := cc
  simp only at *
  clear hcut
  generalize (if tp.head? = some 45 then tp.tail else tp) = dg at *
  generalize decide (tp.head? = some 45) = neg at *
  generalize parseN dg = nm at *
  obtain ⟨ns, ne⟩ := nm
  generalize parseN bt = dm at *
  obtain ⟨dn, de⟩ := dm
  simp only at *
  subst h1
  have hn' : neg = false ∨ (neg = true ∧ ((ns.length : Int) == 0) = false) := by
    cases neg
    · exact .inl rfl
    · exact .inr ⟨rfl, beq_eq_false_iff_ne.2 (fun e => h2 ⟨rfl, by omega⟩)⟩
  clear h2
  subst hb
  have HG := Lib.hid (fun (A A' : Option Addr) (c c' : Nat) (W : World) (r1 : Rd W A ns) (r2 : Rd W A' [1]) (k1 : ns.length ≤ c) (k2 : [1].length ≤ c') => Gcd_any A A' c c' ns [1] W r1 r2 hnn.1 ⟨InR.one (by omega) (by omega), by simp⟩ (by omega) (by first | omega | simp) k1 k2)
  generalize hgg : (val ns).gcd (val [1]) = gg at *
  have h5' : cmpN gg 1 = 0 := by rw [h5]; rfl
  clear h5
  clear hgg
  have ln1 := hnn.2
  rcases hn' with rfl | ⟨rfl, hnl⟩
  all_goals
    obtain ⟨w0, e0, HK, HB0, HG0⟩ := kz w 27 #[.bool false, .slice none 0 0, .slice none 0 0]
    go_enter Tryz.func46, Tryz.ntmps46
    go_wp2_with fail
    rw [← e0]
    clear e0
    refine (HCut.out w0).mono ?_
    rintro e w1 ⟨rfl, hB⟩
    have HK := Lib.hid (HK.out.below hB)
    clear hB HCut
    go_wp2_with fail
    refine (HPre.out w1).mono ?_
    rintro e w1' ⟨rfl, rfl⟩
    clear HPre
    go_wp2_with fail
    refine (HN.out w1).mono ?_
    rintro e w2 ⟨B1, b1, rfl, hO, hB⟩
    have HK := Lib.hid ((HK.out.below hB).add hO HK.out.size)
    clear hO hB HN
    go_wp2_with fail
    have HK := Lib.hid ((HK.out.below ((Below.refl _ _).alloc (Nat.le_refl _) (.cells #[.int .u32 1] 43))).add (one_ow (Nat.le_refl _)) HK.out.size)
    refine (HG.out B1 (some ⟨w2.heap.size, 0, none⟩) b1 1 _ (HK.out.own (B1, b1, ns) (by simp)).rd (HK.out.own ((some ⟨w2.heap.size, 0, none⟩), 1, [1]) (by simp)).rd (HK.out.own (B1, b1, ns) (by simp)).le (HK.out.own ((some ⟨w2.heap.size, 0, none⟩), 1, [1]) (by simp)).le).mono ?_
    rintro e w5 ⟨B3, b3, rfl, hO, hB⟩
    have HK := Lib.hid ((HK.out.below hB).add hO HK.out.size)
    clear hO hB HG
    go_wp2_with fail
    refine (cmp1_any B3 b3 gg (words gg) w5 (HK.out.own (B3, b3, words gg) (by simp)).rd (HK.out.own (B3, b3, words gg) (by simp)).le (val_words _)).mono ?_
    rintro e w6 ⟨rfl, hB⟩
    have HK := Lib.hid (HK.out.below hB)
    clear hB
    generalize cmpN gg 1 = z3 at *
    subst h5'
    have hk3 := HK.out.b0
    have hc0 : w6.cell? ⟨w.heap.size, 0, none⟩ = some (.bool false) := hk3.cell 0
    have hc1 : w6.cell? ⟨w.heap.size, 1, none⟩ = some (.slice none 0 0) := hk3.cell 1
    have hc2 : w6.cell? ⟨w.heap.size, 2, none⟩ = some (.slice none 0 0) := hk3.cell 2
    have hf := hk3.frozen
    go_wp2_with (go_at_call 62; refine (rlong_any _ _ _ _ (by first | omega | simp)).mono ?_; rintro e w' ⟨rfl, rfl⟩)
    exact done_z 3 w w6 w.heap.size (Nat.le_refl _) hk3 (HB0.out.trans (HK.out.low.mono HB0.out.size)) (by
      intro w5 ha0 ha1 ha2 Q hQ
      exact bodyPost_ret (by simp [results, Tryz.results46, go_sem, ha0, ha1, ha2]) rfl hQ)

set_option maxHeartbeats 2000000 in
set_option maxRecDepth 100000 in
theorem Parse0_yes (l : List UInt8) (w : World) (hs : l.length ≤ 65536) (h1 : (parseN (pTop l)).2 = 0) (h2 : ¬ (pNeg l = true ∧ (parseN (pTop l)).1.length = 0)) (hb : (cutB l 47).2.2 = true) (h3 : (parseN (cutB l 47).2.1).2 = 0) (h4 : ¬ val (parseN (cutB l 47).2.1).1 ≤ 1) (h5 : (val (parseN (pTop l)).1).gcd (val (parseN (cutB l 47).2.1).1) = 1) (h6 : ¬ 2048 < (parseN (pTop l)).1.length) (h7 : ¬ 2048 < (parseN (cutB l 47).2.1).1.length) :
    Calls Tryz.prog 46 #[.string ⟨l.toArray⟩] w fun e w' => ∃ v, e = .returned (.tuple #[v, .int .i64 0]) ∧ OwR w' w.heap.size v ⟨pNeg l, (parseN (pTop l)).1, (parseN (cutB l 47).2.1).1⟩ ∧ Below w.heap.size w w' := by
  have hnn := parseN_norm (pTop l)
  have hnd := parseN_norm (cutB l 47).2.1
  have HCut := Lib.hid (fun W => Cut_any l 47 W (by omega))
  have hb1 := (cutB_len l 47).1
  have hb2 := (cutB_len l 47).2
  have ht := pTop_len l
  have HN := Lib.hid (fun W => nParse_any (pTop l) W (by omega))
  have HD := Lib.hid (fun W => nParse_any (cutB l 47).2.1 W (by omega))
  have HPre := Lib.hid (fun W => CutPrefix_any (cutB l 47).1 45 W)
  try unfold pTop at *
  try unfold pNeg at *
  try unfold pDen at *
  generalize hcut : cutB l 47 = cc at *
  obtain ⟨tp, bt, both⟩ := cc
  simp only at *
  clear hcut
  generalize (if tp.head? = some 45 then tp.tail else tp) = dg at *
  generalize decide (tp.head? = some 45) = neg at *
  generalize parseN dg = nm at *
  obtain ⟨ns, ne⟩ := nm
  generalize parseN bt = dm at *
  obtain ⟨dn, de⟩ := dm
  simp only at *
  subst h1
  have hn' : neg = false ∨ (neg = true ∧ ((ns.length : Int) == 0) = false) := by
    cases neg
    · exact .inl rfl
    · exact .inr ⟨rfl, beq_eq_false_iff_ne.2 (fun e => h2 ⟨rfl, by omega⟩)⟩
  clear h2
  subst hb h3
  have h4' : 0 < cmpN (val dn) 1 := by unfold cmpN; rw [if_neg (by omega), if_pos (by omega)]; omega
  clear h4
  have HG := Lib.hid (fun (A A' : Option Addr) (c c' : Nat) (W : World) (r1 : Rd W A ns) (r2 : Rd W A' dn) (k1 : ns.length ≤ c) (k2 : dn.length ≤ c') => Gcd_any A A' c c' ns dn W r1 r2 hnn.1 hnd.1 (by omega) (by first | omega | simp) k1 k2)
  generalize hgg : (val ns).gcd (val dn) = gg at *
  have h5' : cmpN gg 1 = 0 := by rw [h5]; rfl
  clear h5
  clear hgg
  have ln1 := hnn.2
  have ln2 := hnd.2
  rcases hn' with rfl | ⟨rfl, hnl⟩
  all_goals
    obtain ⟨w0, e0, HK, HB0, HG0⟩ := kz w 27 #[.bool false, .slice none 0 0, .slice none 0 0]
    go_enter Tryz.func46, Tryz.ntmps46
    go_wp2_with fail
    rw [← e0]
    clear e0
    refine (HCut.out w0).mono ?_
    rintro e w1 ⟨rfl, hB⟩
    have HK := Lib.hid (HK.out.below hB)
    clear hB HCut
    go_wp2_with fail
    refine (HPre.out w1).mono ?_
    rintro e w1' ⟨rfl, rfl⟩
    clear HPre
    go_wp2_with fail
    refine (HN.out w1).mono ?_
    rintro e w2 ⟨B1, b1, rfl, hO, hB⟩
    have HK := Lib.hid ((HK.out.below hB).add hO HK.out.size)
    clear hO hB HN
    go_wp2_with fail
    have HK := Lib.hid (HK.out.below ((Below.refl _ _).alloc (Nat.le_refl _) (.cells #[.int .u32 1] 43)))
    refine (HD.out _).mono ?_
    rintro e w3 ⟨B2, b2, rfl, hO, hB⟩
    have HK := Lib.hid ((HK.out.below hB).add hO HK.out.size)
    clear hO hB HD
    go_wp2_with fail
    refine (cmp1_any B2 b2 (val dn) dn w3 (HK.out.own (B2, b2, dn) (by simp)).rd (HK.out.own (B2, b2, dn) (by simp)).le rfl).mono ?_
    rintro e w4 ⟨rfl, hB⟩
    have HK := Lib.hid (HK.out.below hB)
    clear hB
    generalize cmpN (val dn) 1 = z2 at *
    go_wp2_with fail
    refine (HG.out B1 B2 b1 b2 _ (HK.out.own (B1, b1, ns) (by simp)).rd (HK.out.own (B2, b2, dn) (by simp)).rd (HK.out.own (B1, b1, ns) (by simp)).le (HK.out.own (B2, b2, dn) (by simp)).le).mono ?_
    rintro e w5 ⟨B3, b3, rfl, hO, hB⟩
    have HK := Lib.hid ((HK.out.below hB).add hO HK.out.size)
    clear hO hB HG
    go_wp2_with fail
    refine (cmp1_any B3 b3 gg (words gg) w5 (HK.out.own (B3, b3, words gg) (by simp)).rd (HK.out.own (B3, b3, words gg) (by simp)).le (val_words _)).mono ?_
    rintro e w6 ⟨rfl, hB⟩
    have HK := Lib.hid (HK.out.below hB)
    clear hB
    generalize cmpN gg 1 = z3 at *
    subst h5'
    have hk3 := HK.out.b0
    have hc0 : w6.cell? ⟨w.heap.size, 0, none⟩ = some (.bool false) := hk3.cell 0
    have hc1 : w6.cell? ⟨w.heap.size, 1, none⟩ = some (.slice none 0 0) := hk3.cell 1
    have hc2 : w6.cell? ⟨w.heap.size, 2, none⟩ = some (.slice none 0 0) := hk3.cell 2
    have hf := hk3.frozen
    go_wp2_with (go_at_call 62; refine (rlong_any _ _ _ _ (by first | omega | simp)).mono ?_; rintro e w' ⟨rfl, rfl⟩)
    exact done_r (F.mk _ ns dn) 0 B1 b1 B2 b2 w w6 w.heap.size w0.heap.size (Nat.le_refl _) HG0.out hk3 (HB0.out.trans (HK.out.low.mono HB0.out.size)) (HK.out.own (B1, b1, ns) (by simp)) (HK.out.own (B2, b2, dn) (by simp)) (by
      intro w5 ha0 ha1 ha2 Q hQ
      exact bodyPost_ret (by simp [results, Tryz.results46, go_sem, ha0, ha1, ha2]) rfl hQ)

set_option maxHeartbeats 2000000 in
set_option maxRecDepth 100000 in
theorem Parse0_yes' (l : List UInt8) (w : World) (hs : l.length ≤ 65536) (h1 : (parseN (pTop l)).2 = 0) (h2 : ¬ (pNeg l = true ∧ (parseN (pTop l)).1.length = 0)) (hb : (cutB l 47).2.2 = false) (h5 : (val (parseN (pTop l)).1).gcd (val [1]) = 1) (h6 : ¬ 2048 < (parseN (pTop l)).1.length) :
    Calls Tryz.prog 46 #[.string ⟨l.toArray⟩] w fun e w' => ∃ v, e = .returned (.tuple #[v, .int .i64 0]) ∧ OwR w' w.heap.size v ⟨pNeg l, (parseN (pTop l)).1, [1]⟩ ∧ Below w.heap.size w w' := by
  have hnn := parseN_norm (pTop l)
  have hnd := parseN_norm (cutB l 47).2.1
  have HCut := Lib.hid (fun W => Cut_any l 47 W (by omega))
  have hb1 := (cutB_len l 47).1
  have hb2 := (cutB_len l 47).2
  have ht := pTop_len l
  have HN := Lib.hid (fun W => nParse_any (pTop l) W (by omega))
  have HD := Lib.hid (fun W => nParse_any (cutB l 47).2.1 W (by omega))
  have HPre := Lib.hid (fun W => CutPrefix_any (cutB l 47).1 45 W)
  try unfold pTop at *
  try unfold pNeg at *
  try unfold pDen at *
  generalize hcut : cutB l 47 = cc at *
  obtain ⟨tp, bt, both⟩ := cc
  simp only at *
  clear hcut
  generalize (if tp.head? = some 45 then tp.tail else tp) = dg at *
  generalize decide (tp.head? = some 45) = neg at *
  generalize parseN dg = nm at *
  obtain ⟨ns, ne⟩ := nm
  generalize parseN bt = dm at *
  obtain ⟨dn, de⟩ := dm
  simp only at *
  subst h1
  have hn' : neg = false ∨ (neg = true ∧ ((ns.length : Int) == 0) = false) := by
    cases neg
    · exact .inl rfl
    · exact .inr ⟨rfl, beq_eq_false_iff_ne.2 (fun e => h2 ⟨rfl, by omega⟩)⟩
  clear h2
  subst hb
  have HG := Lib.hid (fun (A A' : Option Addr) (c c' : Nat) (W : World) (r1 : Rd W A ns) (r2 : Rd W A' [1]) (k1 : ns.length ≤ c) (k2 : [1].length ≤ c') => Gcd_any A A' c c' ns [1] W r1 r2 hnn.1 ⟨InR.one (by omega) (by omega), by simp⟩ (by omega) (by first | omega | simp) k1 k2)
  generalize hgg : (val ns).gcd (val [1]) = gg at *
  have h5' : cmpN gg 1 = 0 := by rw [h5]; rfl
  clear h5
  clear hgg
  have ln1 := hnn.2
  rcases hn' with rfl | ⟨rfl, hnl⟩
  all_goals
    obtain ⟨w0, e0, HK, HB0, HG0⟩ := kz w 27 #[.bool false, .slice none 0 0, .slice none 0 0]
    go_enter Tryz.func46, Tryz.ntmps46
    go_wp2_with fail
    rw [← e0]
    clear e0
    refine (HCut.out w0).mono ?_
    rintro e w1 ⟨rfl, hB⟩
    have HK := Lib.hid (HK.out.below hB)
    clear hB HCut
    go_wp2_with fail
    refine (HPre.out w1).mono ?_
    rintro e w1' ⟨rfl, rfl⟩
    clear HPre
    go_wp2_with fail
    refine (HN.out w1).mono ?_
    rintro e w2 ⟨B1, b1, rfl, hO, hB⟩
    have HK := Lib.hid ((HK.out.below hB).add hO HK.out.size)
    clear hO hB HN
    go_wp2_with fail
    have HK := Lib.hid ((HK.out.below ((Below.refl _ _).alloc (Nat.le_refl _) (.cells #[.int .u32 1] 43))).add (one_ow (Nat.le_refl _)) HK.out.size)
    refine (HG.out B1 (some ⟨w2.heap.size, 0, none⟩) b1 1 _ (HK.out.own (B1, b1, ns) (by simp)).rd (HK.out.own ((some ⟨w2.heap.size, 0, none⟩), 1, [1]) (by simp)).rd (HK.out.own (B1, b1, ns) (by simp)).le (HK.out.own ((some ⟨w2.heap.size, 0, none⟩), 1, [1]) (by simp)).le).mono ?_
    rintro e w5 ⟨B3, b3, rfl, hO, hB⟩
    have HK := Lib.hid ((HK.out.below hB).add hO HK.out.size)
    clear hO hB HG
    go_wp2_with fail
    refine (cmp1_any B3 b3 gg (words gg) w5 (HK.out.own (B3, b3, words gg) (by simp)).rd (HK.out.own (B3, b3, words gg) (by simp)).le (val_words _)).mono ?_
    rintro e w6 ⟨rfl, hB⟩
    have HK := Lib.hid (HK.out.below hB)
    clear hB
    generalize cmpN gg 1 = z3 at *
    subst h5'
    have hk3 := HK.out.b0
    have hc0 : w6.cell? ⟨w.heap.size, 0, none⟩ = some (.bool false) := hk3.cell 0
    have hc1 : w6.cell? ⟨w.heap.size, 1, none⟩ = some (.slice none 0 0) := hk3.cell 1
    have hc2 : w6.cell? ⟨w.heap.size, 2, none⟩ = some (.slice none 0 0) := hk3.cell 2
    have hf := hk3.frozen
    go_wp2_with (go_at_call 62; refine (rlong_any _ _ _ _ (by first | omega | simp)).mono ?_; rintro e w' ⟨rfl, rfl⟩)
    exact done_r (F.mk _ ns [1]) 0 B1 b1 (some ⟨w2.heap.size, 0, none⟩) 1 w w6 w.heap.size w0.heap.size (Nat.le_refl _) HG0.out hk3 (HB0.out.trans (HK.out.low.mono HB0.out.size)) (HK.out.own (B1, b1, ns) (by simp)) (HK.out.own ((some ⟨w2.heap.size, 0, none⟩), 1, [1]) (by simp)) (by
      intro w5 ha0 ha1 ha2 Q hQ
      exact bodyPost_ret (by simp [results, Tryz.results46, go_sem, ha0, ha1, ha2]) rfl hQ)
end Go.Proofs.YtolbafckppafkaaGreatDoor
