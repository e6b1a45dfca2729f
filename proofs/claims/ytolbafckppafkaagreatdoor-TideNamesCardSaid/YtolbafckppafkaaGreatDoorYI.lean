/-
  Stable texts joined: Rg, Rh.
-/
import Derived.Test.YtolbafckppafkaaGreatDoorYG
import Derived.Test.YtolbafckppafkaaGreatDoorYB
import Derived.Deep.RegionHeld3
import Derived.Deep.DeepCutAuto
/-
  PACKAGE ratio: plus.
-/
set_option linter.unusedVariables false
set_option linter.unusedSimpArgs false
set_option linter.unnecessarySimpa false
namespace Go.Proofs.YtolbafckppafkaaGreatDoor
open Go.RowKit Pl

/-- three products in fresh memory -/
def Prod3 (base : Nat) (X Y Z : List Int) (s6 s7 s8 : Value) (wx : World) : Prop :=
  ∃ B1 b1 B2 b2 B3 b3, s6 = .slice B1 X.length b1 ∧ s7 = .slice B2 Y.length b2 ∧ s8 = .slice B3 Z.length b3 ∧ Ow wx base B1 b1 X ∧ Ow wx base B2 b2 Y ∧ Ow wx base B3 b3 Z
theorem words_add_len {a b n : Nat} (ha : (words a).length ≤ n) (hb : (words b).length ≤ n) : (words (a + b)).length ≤ n + 1 := by
  rw [words_len] at *
  rw [Nat.pow_succ]; omega
theorem words_mul_len {l m : List Int} {n : Nat} (hl : InR l) (hm : InR m) (h : l.length + m.length ≤ n) : (words (val l * val m)).length ≤ n := by
  rw [words_len]
  have h1 := val_lt hl
  have h2 := val_lt hm
  have h3 : val l * val m < 4294967296 ^ l.length * 4294967296 ^ m.length := Nat.mul_lt_mul'' h1 h2
  rw [← Nat.pow_add] at h3
  exact Nat.lt_of_lt_of_le h3 (Nat.pow_le_pow_right (by omega) h)

set_option maxHeartbeats 2000000 in
theorem plus_any (f k : F) (A A' : Option Addr) (c c' : Nat) (C C' : Option Addr) (d d' : Nat) (w : World) (h : Rd w A f.num) (h' : Rd w A' f.den) (hc : f.num.length ≤ c) (hc' : f.den.length ≤ c')
    (k1 : Rd w C k.num) (k2 : Rd w C' k.den) (hd : k.num.length ≤ d) (hd' : k.den.length ≤ d') (hf : f.ok) (hk : k.ok) :
    Calls Tryz.prog 113 #[.agg #[.bool f.neg, .slice A f.num.length c, .slice A' f.den.length c'], .agg #[.bool k.neg, .slice C k.num.length d, .slice C' k.den.length d']] w fun e w' =>
      ∃ v, e = .returned (.tuple #[v, .int .i64 (tell (f.q + k.q)).2]) ∧ OwR w' w.heap.size v (tell (f.q + k.q)).1 ∧ Below w.heap.size w w' := by
  have HQ := Lib.hid (plus_q hf hk)
  generalize f.q + k.q = r at *
  have T1 := Lib.hid (fun (W : World) (hb : Below w.heap.size w W) => times_any A C' c d' f.num k.den W (h.below hb) (k2.below hb) hf.1 hk.2.1 (by have := hf.2.2.1; have := hk.2.2.2.1; omega))
  have T2 := Lib.hid (fun (W : World) (hb : Below w.heap.size w W) => times_any C A' d c' k.num f.den W (k1.below hb) (h'.below hb) hk.1 hf.2.1 (by have := hk.2.2.1; have := hf.2.2.2.1; omega))
  have T3 := Lib.hid (fun (W : World) (hb : Below w.heap.size w W) => times_any A' C' c' d' f.den k.den W (h'.below hb) (k2.below hb) hf.2.1 hk.2.1 (by have := hf.2.2.2.1; have := hk.2.2.2.1; omega))
  have lx : (words (val f.num * val k.den)).length ≤ 4096 := words_mul_len h.inr k2.inr (by have := hf.2.2.1; have := hk.2.2.2.1; omega)
  have ly : (words (val k.num * val f.den)).length ≤ 4096 := words_mul_len k1.inr h'.inr (by have := hk.2.2.1; have := hf.2.2.2.1; omega)
  have lz : (words (val f.den * val k.den)).length ≤ 4096 := words_mul_len h'.inr k2.inr (by have := hf.2.2.2.1; have := hk.2.2.2.1; omega)
  have z0 : val f.den * val k.den ≠ 0 := Nat.mul_ne_zero hf.den_pos hk.den_pos
  obtain ⟨fn, fl, fm⟩ := f
  obtain ⟨kn, kl, km⟩ := k
  simp only at *
  generalize val fl * val km = x at *
  generalize val kl * val fm = y at *
  generalize val fm * val km = z at *
  have Z0 : words z ≠ [] := fun e => z0 (words_eq_nil.1 e)
  have L : ∀ (neg : Bool) (s : Nat) (B B3 : Option Addr) (b b3 : Nat) (W : World), (words s).length ≤ 8190 → Rd W B (words s) → Rd W B3 (words z) → (words s).length ≤ b → (words z).length ≤ b3 → _ :=
    fun neg s B B3 b b3 W l r1 r2 c1 c2 => lowest_any neg B B3 b b3 (words s) (words z) W r1 r2 (words_norm s) (words_norm z) l (by omega) c1 c2 Z0
  have A1 : ∀ (B1 B2 : Option Addr) (b1 b2 : Nat) (W : World), Rd W B1 (words x) → Rd W B2 (words y) → _ :=
    fun B1 B2 b1 b2 W r1 r2 => Add_any B1 B2 b1 b2 (words x) (words y) W r1 r2 (words_norm x) (by omega) (words_norm y) (by omega)
  have A2 : val (words x) ≤ val (words y) → ∀ (B1 B2 : Option Addr) (b1 b2 : Nat) (W : World), Rd W B1 (words x) → Rd W B2 (words y) → (words x).length ≤ b1 → (words y).length ≤ b2 → _ :=
    fun hle B1 B2 b1 b2 W r1 r2 c1 c2 => Sub_any B2 B1 b2 b1 (words y) (words x) W r2 r1 (words_norm y) (by omega) (words_norm x) (by omega) c2 c1 hle
  have A3 : val (words y) ≤ val (words x) → ∀ (B1 B2 : Option Addr) (b1 b2 : Nat) (W : World), Rd W B1 (words x) → Rd W B2 (words y) → (words x).length ≤ b1 → (words y).length ≤ b2 → _ :=
    fun hle B1 B2 b1 b2 W r1 r2 c1 c2 => Sub_any B1 B2 b1 b2 (words x) (words y) W r1 r2 (words_norm x) (by omega) (words_norm y) (by omega) c1 c2 hle
  have K1 : ∀ (B1 B2 : Option Addr) (b1 b2 : Nat) (W : World), Rd W B1 (words x) → Rd W B2 (words y) → (words x).length ≤ b1 → (words y).length ≤ b2 → _ :=
    fun B1 B2 b1 b2 W r1 r2 c1 c2 => Compare_any B1 B2 b1 b2 (words x) (words y) W r1 c1 r2 c2
  simp only [val_words] at L A1 A2 A3 K1
  have l1 : (words (x + y)).length ≤ 8190 := Nat.le_trans (words_add_len lx ly) (by omega)
  have l2 : (words (y - x)).length ≤ 8190 := Nat.le_trans (words_le (Nat.sub_le y x) ly) (by omega)
  have l3 : (words (x - y)).length ≤ 8190 := Nat.le_trans (words_le (Nat.sub_le x y) lx) (by omega)
  have L1 := Lib.hid (fun neg B B3 b b3 W => L neg _ B B3 b b3 W l1)
  have L2 := Lib.hid (fun neg B B3 b b3 W => L neg _ B B3 b b3 W l2)
  have L3 := Lib.hid (fun neg B B3 b b3 W => L neg _ B B3 b b3 W l3)
  have HA1 := Lib.hid A1
  have HA2 := Lib.hid A2
  have HA3 := Lib.hid A3
  have HC := Lib.hid K1
  clear L A1 A2 A3 K1 l1 l2 l3 lx ly lz z0 Z0 hf hk
  generalize words (x + y) = S1 at *
  generalize words (y - x) = S2 at *
  generalize words (x - y) = S3 at *
  generalize words x = X at *
  generalize words y = Y at *
  generalize words z = Z at *
  generalize Value.slice A fl.length c = va at *
  generalize Value.slice A' fm.length c' = vb at *
  generalize Value.slice C kl.length d = vc at *
  generalize Value.slice C' km.length d' = vd at *
  clear h h' k1 k2 hc hc' hd hd'
  obtain ⟨w0, e0, hK0⟩ := kp3 w 27 27 27 #[.bool fn, va, vb] #[.bool kn, vc, vd] #[.bool false, .slice none 0 0, .slice none 0 0]
  have HT := Lib.hid hK0
  have S1' := Lib.hid (fun (W : World) (hK : Kp w [(w.heap.size, 27, #[.bool fn, va, vb]), (w.heap.size + 1, 27, #[.bool kn, vc, vd]), (w.heap.size + 2, 27, #[.bool false, .slice none 0 0, .slice none 0 0])] [] W) => T1.out W hK.low)
  have S2' := Lib.hid (fun (W : World) (hK : Kp w [(w.heap.size, 27, #[.bool fn, va, vb]), (w.heap.size + 1, 27, #[.bool kn, vc, vd]), (w.heap.size + 2, 27, #[.bool false, .slice none 0 0, .slice none 0 0])] [] W) => T2.out W hK.low)
  have S3' := Lib.hid (fun (W : World) (hK : Kp w [(w.heap.size, 27, #[.bool fn, va, vb]), (w.heap.size + 1, 27, #[.bool kn, vc, vd]), (w.heap.size + 2, 27, #[.bool false, .slice none 0 0, .slice none 0 0])] [] W) => T3.out W hK.low)
  clear T1 T2 T3 hK0
  go_enter Tryz.func113, Tryz.ntmps113
  go_wp2_with fail
  rw [← e0]
  clear e0
  go_upto_region 1 with fail
  go_cut [6, 7, 8] (fun s6 s7 s8 wx => Prod3 w.heap.size X Y Z s6 s7 s8 wx ∧ Kp w [(w.heap.size, 27, #[.bool fn, va, vb]), (w.heap.size + 1, 27, #[.bool kn, vc, vd]), (w.heap.size + 2, 27, #[.bool false, .slice none 0 0, .slice none 0 0])] [] wx)
  case first =>
    obtain ⟨_, p0, p1, p2, q0, q1, q2⟩ := HT.out.six
    go_region_held3 (fun W => Kp w [(w.heap.size, 27, #[.bool fn, va, vb]), (w.heap.size + 1, 27, #[.bool kn, vc, vd]), (w.heap.size + 2, 27, #[.bool false, .slice none 0 0, .slice none 0 0])] [] W ∧ W.cell? ⟨w.heap.size, 0, none⟩ = some (.bool fn) ∧ W.cell? ⟨w.heap.size, 1, none⟩ = some va ∧ W.cell? ⟨w.heap.size, 2, none⟩ = some vb ∧ W.cell? ⟨w.heap.size + 1, 0, none⟩ = some (.bool kn) ∧ W.cell? ⟨w.heap.size + 1, 1, none⟩ = some vc ∧ W.cell? ⟨w.heap.size + 1, 2, none⟩ = some vd) (first | exact HT.out.six | exact HT.out.drew.six) (first | (go_at_call 67; (with_reducible refine (S1'.out _ ?_).mono ?_); (first | exact HT.out | exact HT.out.drew | exact HT.out.drewN _); rintro e w1 ⟨B1, b1, rfl, hO1, hB1⟩; have HO1 := Lib.hid (hO1.mono (base' := w.heap.size) HT.out.size); have HB1 := Lib.hid hB1; (first | have HT := Lib.hid (HT.out.below hB1) | have HT := Lib.hid (HT.out.drew.below hB1)); clear hO1 hB1) | (go_at_call 67; (with_reducible refine (S2'.out _ ?_).mono ?_); (first | exact HT.out | exact HT.out.drew | exact HT.out.drewN _); rintro e w2 ⟨B2, b2, rfl, hO2, hB2⟩; have HO2 := Lib.hid (hO2.mono (base' := w.heap.size) HT.out.size); have HB2 := Lib.hid hB2; (first | have HT := Lib.hid (HT.out.below hB2) | have HT := Lib.hid (HT.out.drew.below hB2)); clear hO2 hB2) | (go_at_call 67; (with_reducible refine (S3'.out _ ?_).mono ?_); (first | exact HT.out | exact HT.out.drew | exact HT.out.drewN _); rintro e w3 ⟨B3, b3, rfl, hO3, hB3⟩; have HO3 := Lib.hid (hO3.mono (base' := w.heap.size) HT.out.size); have HB3 := Lib.hid hB3; (first | have HT := Lib.hid (HT.out.below hB3) | have HT := Lib.hid (HT.out.drew.below hB3)); clear hO3 hB3))
    all_goals (go_wp2_with fail; go_meet; exact ⟨⟨B1, b1, B2, b2, B3, b3, rfl, rfl, rfl, (by first | exact HO1.out | exact HO1.out.below HB2.out | exact HO1.out.below HB3.out | exact (HO1.out.below HB2.out).below HB3.out | exact (HO1.out.below HB3.out).below HB2.out), (by first | exact HO2.out | exact HO2.out.below HB1.out | exact HO2.out.below HB3.out | exact (HO2.out.below HB1.out).below HB3.out | exact (HO2.out.below HB3.out).below HB1.out), (by first | exact HO3.out | exact HO3.out.below HB1.out | exact HO3.out.below HB2.out | exact (HO3.out.below HB1.out).below HB2.out | exact (HO3.out.below HB2.out).below HB1.out)⟩, HT.out⟩)
  case rest =>
    obtain ⟨⟨B1, b1, B2, b2, B3, b3, rfl, rfl, rfl, hO1, hO2, hO3⟩, hK⟩ := hcut
    have HK := Lib.hid (((hK.add hO1 (Nat.le_refl _)).add hO2 (Nat.le_refl _)).add hO3 (Nat.le_refl _))
    clear hO1 hO2 hO3 hK S1' S2' S3' HT
    obtain ⟨_, p0, p1, p2, q0, q1, q2⟩ := HK.out.six
    by_cases hs : fn = kn
    · have hr := HQ.out
      rw [if_pos hs] at hr
      subst hr hs
      go_wp2_with fail
      refine (HA1.out B1 B2 b1 b2 _ (HK.out.own (B1, b1, X) (by simp)).rd (HK.out.own (B2, b2, Y) (by simp)).rd).mono ?_
      rintro e w2 ⟨B, b, rfl, hO, hB⟩
      have HK := Lib.hid ((HK.out.below hB).add hO HK.out.size)
      clear hO hB p0 p1 p2 q0 q1 q2
      have hcells := HK.out.six
      obtain ⟨_, p0, p1, p2, q0, q1, q2⟩ := hcells
      go_wp2_with fail
      refine (L1.out fn B B3 b b3 _ (HK.out.own (B, b, S1) (by simp)).rd (HK.out.own (B3, b3, Z) (by simp)).rd (HK.out.own (B, b, S1) (by simp)).le (HK.out.own (B3, b3, Z) (by simp)).le).mono ?_
      rintro e w4 ⟨v, rfl, ⟨C1, c1, C2, c2, hv, h1, h2⟩, hB⟩
      have HG := Lib.hid HK.out.b2.lt
      have HK := Lib.hid (HK.out.below hB)
      have H1 := Lib.hid h1
      have H2 := Lib.hid h2
      clear h1 h2 hB p0 p1 p2 q0 q1 q2
      subst hv
      have hk3 := HK.out.b2
      have hc0 : w4.cell? ⟨w.heap.size + 2, 0, none⟩ = some (.bool false) := hk3.cell 0
      have hc1 : w4.cell? ⟨w.heap.size + 2, 1, none⟩ = some (.slice none 0 0) := hk3.cell 1
      have hc2 : w4.cell? ⟨w.heap.size + 2, 2, none⟩ = some (.slice none 0 0) := hk3.cell 2
      have hf := hk3.frozen
      go_wp2_with fail
      exact done_r _ _ C1 c1 C2 c2 w w4 (w.heap.size + 2) _ (by omega) HG.out hk3 HK.out.low H1.out H2.out (by
        intro w5 ha0 ha1 ha2 Q hQ
        exact bodyPost_ret (by simp [results, Tryz.results113, go_sem, ha0, ha1, ha2]) rfl hQ)

    · have hr := HQ.out
      rw [if_neg hs] at hr
      have hs' : (fn == kn) = false := beq_eq_false_iff_ne.2 hs
      by_cases hxy : x < y
      · rw [if_pos hxy] at hr
        subst hr
        have hcm : cmpN x y = -1 := by unfold cmpN; rw [if_pos hxy]
        go_wp2_with fail
        refine (HC.out B1 B2 b1 b2 _ (HK.out.own (B1, b1, X) (by simp)).rd (HK.out.own (B2, b2, Y) (by simp)).rd (HK.out.own (B1, b1, X) (by simp)).le (HK.out.own (B2, b2, Y) (by simp)).le).mono ?_
        rw [hcm]
        clear hcm
        rintro e w1 ⟨rfl, n, rfl⟩
        have HK := Lib.hid (HK.out.drewN n)
        go_wp2_with fail
        refine (HA2.out (by omega) B1 B2 b1 b2 _ (HK.out.own (B1, b1, X) (by simp)).rd (HK.out.own (B2, b2, Y) (by simp)).rd (HK.out.own (B1, b1, X) (by simp)).le (HK.out.own (B2, b2, Y) (by simp)).le).mono ?_
        rintro e w2 ⟨B, b, rfl, hO, hB⟩
        have HK := Lib.hid ((HK.out.below hB).add hO HK.out.size)
        clear hO hB p0 p1 p2 q0 q1 q2
        have hcells := HK.out.six
        obtain ⟨_, p0, p1, p2, q0, q1, q2⟩ := hcells
        go_wp2_with fail
        refine (L2.out kn B B3 b b3 _ (HK.out.own (B, b, S2) (by simp)).rd (HK.out.own (B3, b3, Z) (by simp)).rd (HK.out.own (B, b, S2) (by simp)).le (HK.out.own (B3, b3, Z) (by simp)).le).mono ?_
        rintro e w4 ⟨v, rfl, ⟨C1, c1, C2, c2, hv, h1, h2⟩, hB⟩
        have HG := Lib.hid HK.out.b2.lt
        have HK := Lib.hid (HK.out.below hB)
        have H1 := Lib.hid h1
        have H2 := Lib.hid h2
        clear h1 h2 hB p0 p1 p2 q0 q1 q2
        subst hv
        have hk3 := HK.out.b2
        have hc0 : w4.cell? ⟨w.heap.size + 2, 0, none⟩ = some (.bool false) := hk3.cell 0
        have hc1 : w4.cell? ⟨w.heap.size + 2, 1, none⟩ = some (.slice none 0 0) := hk3.cell 1
        have hc2 : w4.cell? ⟨w.heap.size + 2, 2, none⟩ = some (.slice none 0 0) := hk3.cell 2
        have hf := hk3.frozen
        go_wp2_with fail
        exact done_r _ _ C1 c1 C2 c2 w w4 (w.heap.size + 2) _ (by omega) HG.out hk3 HK.out.low H1.out H2.out (by
          intro w5 ha0 ha1 ha2 Q hQ
          exact bodyPost_ret (by simp [results, Tryz.results113, go_sem, ha0, ha1, ha2]) rfl hQ)

      · rw [if_neg hxy] at hr
        subst hr
        have hcm : cmpN x y = 0 ∨ cmpN x y = 1 := by
          unfold cmpN; rw [if_neg hxy]; split
          · exact .inr rfl
          · exact .inl rfl
        have hm1 := (HC.out B1 B2 b1 b2 _ (HK.out.own (B1, b1, X) (by simp)).rd (HK.out.own (B2, b2, Y) (by simp)).rd (HK.out.own (B1, b1, X) (by simp)).le (HK.out.own (B2, b2, Y) (by simp)).le)
        generalize cmpN x y = m at *
        have HM := Lib.hid hm1
        clear hm1
        rcases hcm with rfl | rfl
        all_goals
          go_wp2_with fail
          refine HM.out.mono ?_
          rintro e w1 ⟨rfl, n, rfl⟩
          have HK := Lib.hid (HK.out.drewN n)
          go_wp2_with fail
          refine (HA3.out (by omega) B1 B2 b1 b2 _ (HK.out.own (B1, b1, X) (by simp)).rd (HK.out.own (B2, b2, Y) (by simp)).rd (HK.out.own (B1, b1, X) (by simp)).le (HK.out.own (B2, b2, Y) (by simp)).le).mono ?_
          rintro e w2 ⟨B, b, rfl, hO, hB⟩
          have HK := Lib.hid ((HK.out.below hB).add hO HK.out.size)
          clear hO hB p0 p1 p2 q0 q1 q2
          have hcells := HK.out.six
          obtain ⟨_, p0, p1, p2, q0, q1, q2⟩ := hcells
          go_wp2_with fail
          refine (L3.out fn B B3 b b3 _ (HK.out.own (B, b, S3) (by simp)).rd (HK.out.own (B3, b3, Z) (by simp)).rd (HK.out.own (B, b, S3) (by simp)).le (HK.out.own (B3, b3, Z) (by simp)).le).mono ?_
          rintro e w4 ⟨v, rfl, ⟨C1, c1, C2, c2, hv, h1, h2⟩, hB⟩
          have HG := Lib.hid HK.out.b2.lt
          have HK := Lib.hid (HK.out.below hB)
          have H1 := Lib.hid h1
          have H2 := Lib.hid h2
          clear h1 h2 hB p0 p1 p2 q0 q1 q2
          subst hv
          have hk3 := HK.out.b2
          have hc0 : w4.cell? ⟨w.heap.size + 2, 0, none⟩ = some (.bool false) := hk3.cell 0
          have hc1 : w4.cell? ⟨w.heap.size + 2, 1, none⟩ = some (.slice none 0 0) := hk3.cell 1
          have hc2 : w4.cell? ⟨w.heap.size + 2, 2, none⟩ = some (.slice none 0 0) := hk3.cell 2
          have hf := hk3.frozen
          go_wp2_with fail
          exact done_r _ _ C1 c1 C2 c2 w w4 (w.heap.size + 2) _ (by omega) HG.out hk3 HK.out.low H1.out H2.out (by
            intro w5 ha0 ha1 ha2 Q hQ
            exact bodyPost_ret (by simp [results, Tryz.results113, go_sem, ha0, ha1, ha2]) rfl hQ)

end Go.Proofs.YtolbafckppafkaaGreatDoor

/-
  PACKAGE ratio: Add, Sub.
-/
set_option linter.unusedVariables false
set_option linter.unusedSimpArgs false
set_option linter.unnecessarySimpa false
namespace Go.Proofs.YtolbafckppafkaaGreatDoor
open Go.RowKit Pl

/-- checks, as a number -/
def ck2 (f k : F) : Int := if chk f = 0 then chk k else chk f
theorem ck2_ok {f k : F} (h1 : InR f.num) (h2 : InR f.den) (h3 : InR k.num) (h4 : InR k.den) : ck2 f k = 0 ↔ f.ok ∧ k.ok := by
  unfold ck2
  rw [← chk_ok h1 h2, ← chk_ok h3 h4]
  by_cases e : chk f = 0 <;> simp [e]
def addR (f k : F) : F × Int := if ck2 f k ≠ 0 then (F.zero, ck2 f k) else tell (f.q + k.q)
def subR (f k : F) : F × Int := if ck2 f k ≠ 0 then (F.zero, ck2 f k) else tell (f.q - k.q)
def mulR (f k : F) : F × Int := if ck2 f k ≠ 0 then (F.zero, ck2 f k) else tell (f.q * k.q)
def quoR (f k : F) : F × Int := if ck2 f k ≠ 0 then (F.zero, ck2 f k) else if k.num.length = 0 then (F.zero, 7) else tell (f.q / k.q)

theorem Kp.two {w W : World} {p q : Nat × TypeId × Array Value} {r : List (Nat × TypeId × Array Value)} {os : List (Option Addr × Nat × List Int)} (h : Kp w (p :: q :: r) os W) : Kp w [p, q] os W :=
  ⟨h.low, fun x hx => h.blk x (by simp only [List.mem_cons, List.not_mem_nil, or_false] at hx ⊢; rcases hx with hx | hx <;> simp [hx]), h.own⟩
theorem Kp.st3 {w W : World} {g : Nat} {p q : Nat × TypeId × Array Value} (h : Kp w [p, q] [] W) (h1 : p.1 ≠ g) (h2 : q.1 ≠ g) (hg : w.heap.size ≤ g) (u v x : Value) : Kp w [p, q] [] (st3 W g u v x) :=
  ⟨st3_below h.low hg u v x, fun y hy => by
    have hk := h.blk y hy
    have hne : y.1 ≠ g := by
      simp only [List.mem_cons, List.not_mem_nil, or_false] at hy
      rcases hy with rfl | rfl
      · exact h1
      · exact h2
    exact ((hk.far (p := ⟨g, 0, none⟩) hne u).far (p := ⟨g, 1, none⟩) hne v).far (p := ⟨g, 2, none⟩) hne x, fun y hy => by cases hy⟩

/-- nothing is told but an error -/
theorem done_z {P : Program} {fn : Func} {fr : Act} (er : Int) (w w3 : World) (g : Nat) (hg : w.heap.size ≤ g)
    {a b c : Value} (hk3 : Blk w3 g 27 #[a, b, c]) (hb3 : Below w.heap.size w w3)
    (H : ∀ w4 : World, w4.cell? ⟨g, 0, none⟩ = some (.bool false) → w4.cell? ⟨g, 1, none⟩ = some (.slice none 0 0) → w4.cell? ⟨g, 2, none⟩ = some (.slice none 0 0) → ∀ Q : Ending → World → Prop,
      Q (.returned (.tuple #[.agg #[.bool false, .slice none 0 0, .slice none 0 0], .int .i64 er])) w4 → bodyPost P fn Q .ret fr w4) :
    bodyPost P fn (fun e w' => ∃ v, e = .returned (.tuple #[v, .int .i64 er]) ∧ OwR w' w.heap.size v F.zero ∧ Below w.heap.size w w') .ret fr (st3 w3 g (.bool false) (.slice none 0 0) (.slice none 0 0)) := by
  have hk4 := st3_blk hk3 (.bool false) (.slice none 0 0) (.slice none 0 0)
  have hb4 := st3_below hb3 hg (.bool false) (.slice none 0 0) (.slice none 0 0)
  exact H _ (hk4.cell 0) (hk4.cell 1) (hk4.cell 2) _ ⟨_, rfl, OwR.zero _ _, hb4⟩

set_option maxHeartbeats 1000000 in
theorem Add0_no (f k : F) (A A' : Option Addr) (c c' : Nat) (C C' : Option Addr) (d d' : Nat) (w : World) (h : Rd w A f.num) (h' : Rd w A' f.den) (hc : f.num.length ≤ c) (hc' : f.den.length ≤ c')
    (k1 : Rd w C k.num) (k2 : Rd w C' k.den) (hd : k.num.length ≤ d) (hd' : k.den.length ≤ d') (hx : ck2 f k ≠ 0) :
    Calls Tryz.prog 87 #[.agg #[.bool f.neg, .slice A f.num.length c, .slice A' f.den.length c'], .agg #[.bool k.neg, .slice C k.num.length d, .slice C' k.den.length d']] w fun e w' =>
      ∃ v, e = .returned (.tuple #[v, .int .i64 (ck2 f k)]) ∧ OwR w' w.heap.size v F.zero ∧ Below w.heap.size w w' := by
  have C1 := Lib.hid (fun W r1 r2 r3 r4 => checks_any f k A A' c c' C C' d d' W r1 r2 hc hc' r3 r4 hd hd')
  unfold ck2 at hx ⊢
  generalize (if chk f = 0 then chk k else chk f) = x at *
  have hx' : (x != 0) = true := bne_iff_ne.2 hx
  obtain ⟨w0, e0, hK0⟩ := kp3 w 27 27 27 #[.bool f.neg, .slice A f.num.length c, .slice A' f.den.length c'] #[.bool k.neg, .slice C k.num.length d, .slice C' k.den.length d'] #[.bool false, .slice none 0 0, .slice none 0 0]
  have HK := Lib.hid hK0
  clear hK0
  go_enter Tryz.func87, Tryz.ntmps87
  go_wp2_with fail
  rw [← e0]
  clear e0
  obtain ⟨_, p0, p1, p2, q0, q1, q2⟩ := HK.out.six
  go_wp2_with fail
  refine (C1.out w0 (h.below HK.out.low) (h'.below HK.out.low) (k1.below HK.out.low) (k2.below HK.out.low)).mono ?_
  rintro e w1 ⟨rfl, hB1⟩
  have HK := Lib.hid (HK.out.below hB1)
  clear hB1 p0 p1 p2 q0 q1 q2
  have hk3 := HK.out.b2
  have hc0 : w1.cell? ⟨w.heap.size + 2, 0, none⟩ = some (.bool false) := hk3.cell 0
  have hc1 : w1.cell? ⟨w.heap.size + 2, 1, none⟩ = some (.slice none 0 0) := hk3.cell 1
  have hc2 : w1.cell? ⟨w.heap.size + 2, 2, none⟩ = some (.slice none 0 0) := hk3.cell 2
  have hf := hk3.frozen
  go_wp2_with fail
  exact done_z x w w1 (w.heap.size + 2) (by omega) hk3 HK.out.low (by
    intro w5 ha0 ha1 ha2 Q hQ
    exact bodyPost_ret (by simp [results, Tryz.results87, go_sem, ha0, ha1, ha2]) rfl hQ)

set_option maxHeartbeats 2000000 in
theorem Add0_ok (f k : F) (A A' : Option Addr) (c c' : Nat) (C C' : Option Addr) (d d' : Nat) (w : World) (h : Rd w A f.num) (h' : Rd w A' f.den) (hc : f.num.length ≤ c) (hc' : f.den.length ≤ c')
    (k1 : Rd w C k.num) (k2 : Rd w C' k.den) (hd : k.num.length ≤ d) (hd' : k.den.length ≤ d') (hf : f.ok) (hk : k.ok) :
    Calls Tryz.prog 87 #[.agg #[.bool f.neg, .slice A f.num.length c, .slice A' f.den.length c'], .agg #[.bool k.neg, .slice C k.num.length d, .slice C' k.den.length d']] w fun e w' =>
      ∃ v, e = .returned (.tuple #[v, .int .i64 (tell (f.q + k.q)).2]) ∧ OwR w' w.heap.size v (tell (f.q + k.q)).1 ∧ Below w.heap.size w w' := by
  have z : (if chk f = 0 then chk k else chk f) = 0 := by
    rw [if_pos ((chk_ok h.inr h'.inr).2 hf)]; exact (chk_ok k1.inr k2.inr).2 hk
  have C1 := checks_any f k A A' c c' C C' d d'
  rw [z] at C1
  have HC1 := Lib.hid (fun W r1 r2 r3 r4 => C1 W r1 r2 hc hc' r3 r4 hd hd')
  clear C1 z
  have HP := Lib.hid (fun W r1 r2 r3 r4 => plus_any f k A A' c c' C C' d d' W r1 r2 hc hc' r3 r4 hd hd' hf hk)
  generalize f.q + k.q = r at *
  obtain ⟨w0, e0, hK0⟩ := kp3 w 27 27 27 #[.bool f.neg, .slice A f.num.length c, .slice A' f.den.length c'] #[.bool k.neg, .slice C k.num.length d, .slice C' k.den.length d'] #[.bool false, .slice none 0 0, .slice none 0 0]
  have HK := Lib.hid hK0
  clear hK0
  go_enter Tryz.func87, Tryz.ntmps87
  go_wp2_with fail
  rw [← e0]
  clear e0
  obtain ⟨_, p0, p1, p2, q0, q1, q2⟩ := HK.out.six
  go_wp2_with fail
  refine (HC1.out w0 (h.below HK.out.low) (h'.below HK.out.low) (k1.below HK.out.low) (k2.below HK.out.low)).mono ?_
  rintro e w1 ⟨rfl, hB1⟩
  have HK := Lib.hid (HK.out.below hB1)
  clear hB1 p0 p1 p2 q0 q1 q2
  obtain ⟨_, p0, p1, p2, q0, q1, q2⟩ := HK.out.six
  go_wp2_with fail
  refine (HP.out _ (h.below HK.out.low) (h'.below HK.out.low) (k1.below HK.out.low) (k2.below HK.out.low)).mono ?_
  clear p0 p1 p2 q0 q1 q2
  rintro e w2 ⟨v, rfl, ⟨C1, c1, C2, c2, hv, h1, h2⟩, hB⟩
  have HG := Lib.hid HK.out.b2.lt
  have HK := Lib.hid (HK.out.below hB)
  have H1 := Lib.hid h1
  have H2 := Lib.hid h2
  clear h1 h2 hB
  subst hv
  have hk3 := HK.out.b2
  have hc0 : w2.cell? ⟨w.heap.size + 2, 0, none⟩ = some (.bool false) := hk3.cell 0
  have hc1 : w2.cell? ⟨w.heap.size + 2, 1, none⟩ = some (.slice none 0 0) := hk3.cell 1
  have hc2 : w2.cell? ⟨w.heap.size + 2, 2, none⟩ = some (.slice none 0 0) := hk3.cell 2
  have hf := hk3.frozen
  go_wp2_with fail
  exact done_r _ _ C1 c1 C2 c2 w w2 (w.heap.size + 2) _ (by omega) HG.out hk3 HK.out.low H1.out H2.out (by
    intro w5 ha0 ha1 ha2 Q hQ
    exact bodyPost_ret (by simp [results, Tryz.results87, go_sem, ha0, ha1, ha2]) rfl hQ)

theorem Add0_any (f k : F) (A A' : Option Addr) (c c' : Nat) (C C' : Option Addr) (d d' : Nat) (w : World) (h : Rd w A f.num) (h' : Rd w A' f.den) (hc : f.num.length ≤ c) (hc' : f.den.length ≤ c')
    (k1 : Rd w C k.num) (k2 : Rd w C' k.den) (hd : k.num.length ≤ d) (hd' : k.den.length ≤ d') :
    Calls Tryz.prog 87 #[.agg #[.bool f.neg, .slice A f.num.length c, .slice A' f.den.length c'], .agg #[.bool k.neg, .slice C k.num.length d, .slice C' k.den.length d']] w fun e w' =>
      ∃ v, e = .returned (.tuple #[v, .int .i64 (addR f k).2]) ∧ OwR w' w.heap.size v (addR f k).1 ∧ Below w.heap.size w w' := by
  by_cases hx : ck2 f k = 0
  · obtain ⟨hf, hk⟩ := (ck2_ok h.inr h'.inr k1.inr k2.inr).1 hx
    have e : addR f k = tell (f.q + k.q) := by unfold addR; rw [if_neg (by omega)]
    rw [e]
    exact Add0_ok f k A A' c c' C C' d d' w h h' hc hc' k1 k2 hd hd' hf hk
  · have e : addR f k = (F.zero, ck2 f k) := by unfold addR; rw [if_pos hx]
    rw [e]
    exact Add0_no f k A A' c c' C C' d d' w h h' hc hc' k1 k2 hd hd' hx

set_option maxHeartbeats 1000000 in
theorem Sub0_no (f k : F) (A A' : Option Addr) (c c' : Nat) (C C' : Option Addr) (d d' : Nat) (w : World) (h : Rd w A f.num) (h' : Rd w A' f.den) (hc : f.num.length ≤ c) (hc' : f.den.length ≤ c')
    (k1 : Rd w C k.num) (k2 : Rd w C' k.den) (hd : k.num.length ≤ d) (hd' : k.den.length ≤ d') (hx : ck2 f k ≠ 0) :
    Calls Tryz.prog 97 #[.agg #[.bool f.neg, .slice A f.num.length c, .slice A' f.den.length c'], .agg #[.bool k.neg, .slice C k.num.length d, .slice C' k.den.length d']] w fun e w' =>
      ∃ v, e = .returned (.tuple #[v, .int .i64 (ck2 f k)]) ∧ OwR w' w.heap.size v F.zero ∧ Below w.heap.size w w' := by
  have C1 := Lib.hid (fun W r1 r2 r3 r4 => checks_any f k A A' c c' C C' d d' W r1 r2 hc hc' r3 r4 hd hd')
  unfold ck2 at hx ⊢
  generalize (if chk f = 0 then chk k else chk f) = x at *
  have hx' : (x != 0) = true := bne_iff_ne.2 hx
  obtain ⟨w0, e0, hK0⟩ := kp3 w 27 27 27 #[.bool f.neg, .slice A f.num.length c, .slice A' f.den.length c'] #[.bool k.neg, .slice C k.num.length d, .slice C' k.den.length d'] #[.bool false, .slice none 0 0, .slice none 0 0]
  have HK := Lib.hid hK0
  clear hK0
  go_enter Tryz.func97, Tryz.ntmps97
  go_wp2_with fail
  rw [← e0]
  clear e0
  obtain ⟨_, p0, p1, p2, q0, q1, q2⟩ := HK.out.six
  go_wp2_with fail
  refine (C1.out w0 (h.below HK.out.low) (h'.below HK.out.low) (k1.below HK.out.low) (k2.below HK.out.low)).mono ?_
  rintro e w1 ⟨rfl, hB1⟩
  have HK := Lib.hid (HK.out.below hB1)
  clear hB1 p0 p1 p2 q0 q1 q2
  have hk3 := HK.out.b2
  have hc0 : w1.cell? ⟨w.heap.size + 2, 0, none⟩ = some (.bool false) := hk3.cell 0
  have hc1 : w1.cell? ⟨w.heap.size + 2, 1, none⟩ = some (.slice none 0 0) := hk3.cell 1
  have hc2 : w1.cell? ⟨w.heap.size + 2, 2, none⟩ = some (.slice none 0 0) := hk3.cell 2
  have hf := hk3.frozen
  go_wp2_with fail
  exact done_z x w w1 (w.heap.size + 2) (by omega) hk3 HK.out.low (by
    intro w5 ha0 ha1 ha2 Q hQ
    exact bodyPost_ret (by simp [results, Tryz.results97, go_sem, ha0, ha1, ha2]) rfl hQ)

set_option maxHeartbeats 2000000 in
theorem Sub0_ok (f k : F) (A A' : Option Addr) (c c' : Nat) (C C' : Option Addr) (d d' : Nat) (w : World) (h : Rd w A f.num) (h' : Rd w A' f.den) (hc : f.num.length ≤ c) (hc' : f.den.length ≤ c')
    (k1 : Rd w C k.num) (k2 : Rd w C' k.den) (hd : k.num.length ≤ d) (hd' : k.den.length ≤ d') (hf : f.ok) (hk : k.ok) :
    Calls Tryz.prog 97 #[.agg #[.bool f.neg, .slice A f.num.length c, .slice A' f.den.length c'], .agg #[.bool k.neg, .slice C k.num.length d, .slice C' k.den.length d']] w fun e w' =>
      ∃ v, e = .returned (.tuple #[v, .int .i64 (tell (f.q - k.q)).2]) ∧ OwR w' w.heap.size v (tell (f.q - k.q)).1 ∧ Below w.heap.size w w' := by
  have z : (if chk f = 0 then chk k else chk f) = 0 := by
    rw [if_pos ((chk_ok h.inr h'.inr).2 hf)]; exact (chk_ok k1.inr k2.inr).2 hk
  have C1 := checks_any f k A A' c c' C C' d d'
  rw [z] at C1
  have HC1 := Lib.hid (fun W r1 r2 r3 r4 => C1 W r1 r2 hc hc' r3 r4 hd hd')
  clear C1 z
  have e1 : f.q - k.q = f.q + (⟨!k.neg && decide (k.num ≠ []), k.num, k.den⟩ : F).q := by rw [turned_q, Rat.sub_eq_add_neg]
  have HP := Lib.hid (fun W r1 r2 r3 r4 => plus_any f ⟨!k.neg && decide (k.num ≠ []), k.num, k.den⟩ A A' c c' C C' d d' W r1 r2 hc hc' r3 r4 hd hd' hf (neg_ok hk))
  have HN := Lib.hid (fun W => turned_any k C C' d d' W k1.len)
  rw [e1]
  simp only at HP
  clear e1
  generalize f.q + (⟨!k.neg && decide (k.num ≠ []), k.num, k.den⟩ : F).q = r at *
  generalize (!k.neg && decide (k.num ≠ [])) = s at *
  obtain ⟨w0, e0, hK0⟩ := kp3 w 27 27 27 #[.bool f.neg, .slice A f.num.length c, .slice A' f.den.length c'] #[.bool k.neg, .slice C k.num.length d, .slice C' k.den.length d'] #[.bool false, .slice none 0 0, .slice none 0 0]
  have HK := Lib.hid hK0
  clear hK0
  go_enter Tryz.func97, Tryz.ntmps97
  go_wp2_with fail
  rw [← e0]
  clear e0
  obtain ⟨_, p0, p1, p2, q0, q1, q2⟩ := HK.out.six
  go_wp2_with fail
  refine (HC1.out w0 (h.below HK.out.low) (h'.below HK.out.low) (k1.below HK.out.low) (k2.below HK.out.low)).mono ?_
  rintro e w1 ⟨rfl, hB1⟩
  have HK := Lib.hid (HK.out.below hB1)
  clear hB1 p0 p1 p2 q0 q1 q2
  obtain ⟨_, p0, p1, p2, q0, q1, q2⟩ := HK.out.six
  go_wp2_with fail
  have HT := Lib.hid HK.out.two
  have hc0 : True := trivial
  have hc1 : True := trivial
  have hc2 : True := trivial
  have hf : True := trivial
  have HN' := Lib.hid (fun W => turned_any k C C' d d' W (k1.len))
  go_region_held3 (fun W => Kp w [(w.heap.size, 27, #[.bool f.neg, .slice A f.num.length c, .slice A' f.den.length c']), (w.heap.size + 1, 27, #[.bool k.neg, .slice C k.num.length d, .slice C' k.den.length d'])] [] W ∧ W.cell? ⟨w.heap.size, 0, none⟩ = some (.bool f.neg) ∧ W.cell? ⟨w.heap.size, 1, none⟩ = some (.slice A f.num.length c) ∧ W.cell? ⟨w.heap.size, 2, none⟩ = some (.slice A' f.den.length c') ∧ W.cell? ⟨w.heap.size + 1, 0, none⟩ = some (.bool k.neg) ∧ W.cell? ⟨w.heap.size + 1, 1, none⟩ = some (.slice C k.num.length d) ∧ W.cell? ⟨w.heap.size + 1, 2, none⟩ = some (.slice C' k.den.length d')) (first | exact HT.out.six | exact HT.out.drew.six | exact (HT.out.st3 (g := w.heap.size + 2) (by simp) (by simp) (by omega) _ _ _).six)
    (first | (go_at_call 88; (with_reducible refine (HN.out _).mono ?_); rintro e w2 ⟨rfl, hB⟩; (first | have HK := Lib.hid (HK.out.below hB) | have HK := Lib.hid (HK.out.drew.below hB)); have HT := Lib.hid HK.out.two; clear hB) | (go_at_call 113; (with_reducible refine (HP.out _ (h.below HK.out.low) (h'.below HK.out.low) (k1.below HK.out.low) (k2.below HK.out.low)).mono ?_); rintro e w3 ⟨v, rfl, ⟨C1, c1, C2, c2, hv, h1, h2⟩, hB⟩; have HG := Lib.hid HK.out.b2.lt; have HK := Lib.hid (HK.out.below hB); have HT := Lib.hid HK.out.two; have H1 := Lib.hid h1; have H2 := Lib.hid h2; have hc0 : w3.cell? ⟨w.heap.size + 2, 0, none⟩ = some (.bool false) := HK.out.b2.cell 0; have hc1 : w3.cell? ⟨w.heap.size + 2, 1, none⟩ = some (.slice none 0 0) := HK.out.b2.cell 1; have hc2 : w3.cell? ⟨w.heap.size + 2, 2, none⟩ = some (.slice none 0 0) := HK.out.b2.cell 2; have hf := HK.out.b2.frozen; clear h1 h2 hB; subst hv))
  go_wp2_with fail
  exact done_r _ _ C1 c1 C2 c2 w w3 (w.heap.size + 2) _ (by omega) HG.out HK.out.b2 HK.out.low H1.out H2.out (by
    intro w5 ha0 ha1 ha2 Q hQ
    exact bodyPost_ret (by simp [results, Tryz.results97, go_sem, ha0, ha1, ha2]) rfl hQ)

theorem Sub0_any (f k : F) (A A' : Option Addr) (c c' : Nat) (C C' : Option Addr) (d d' : Nat) (w : World) (h : Rd w A f.num) (h' : Rd w A' f.den) (hc : f.num.length ≤ c) (hc' : f.den.length ≤ c')
    (k1 : Rd w C k.num) (k2 : Rd w C' k.den) (hd : k.num.length ≤ d) (hd' : k.den.length ≤ d') :
    Calls Tryz.prog 97 #[.agg #[.bool f.neg, .slice A f.num.length c, .slice A' f.den.length c'], .agg #[.bool k.neg, .slice C k.num.length d, .slice C' k.den.length d']] w fun e w' =>
      ∃ v, e = .returned (.tuple #[v, .int .i64 (subR f k).2]) ∧ OwR w' w.heap.size v (subR f k).1 ∧ Below w.heap.size w w' := by
  by_cases hx : ck2 f k = 0
  · obtain ⟨hf, hk⟩ := (ck2_ok h.inr h'.inr k1.inr k2.inr).1 hx
    have e : subR f k = tell (f.q - k.q) := by unfold subR; rw [if_neg (by omega)]
    rw [e]
    exact Sub0_ok f k A A' c c' C C' d d' w h h' hc hc' k1 k2 hd hd' hf hk
  · have e : subR f k = (F.zero, ck2 f k) := by unfold subR; rw [if_pos hx]
    rw [e]
    exact Sub0_no f k A A' c c' C C' d d' w h h' hc hc' k1 k2 hd hd' hx
end Go.Proofs.YtolbafckppafkaaGreatDoor
