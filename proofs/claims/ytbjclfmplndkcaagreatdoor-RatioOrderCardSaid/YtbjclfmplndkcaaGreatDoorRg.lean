/-
  PACKAGE ratio: plus.
-/
import Derived.Test.YtbjclfmplndkcaaGreatDoorRf
import Derived.Test.YtbjclfmplndkcaaGreatDoorKp
import Derived.Deep.RegionHeld3
import Derived.Deep.DeepCutAuto
set_option linter.unusedVariables false
set_option linter.unusedSimpArgs false
set_option linter.unnecessarySimpa false
namespace Go.Proofs.YtbjclfmplndkcaaGreatDoor
open Go.RowKit Pl

/-- three products in fresh memory -/
def Prod3 (base : Nat) (X Y Z : List Int) (s6 s7 s8 : Value) (wx : World) : Prop :=
  ∃ B1 b1 B2 b2 B3 b3, s6 = .slice B1 X.length b1 ∧ s7 = .slice B2 Y.length b2 ∧ s8 = .slice B3 Z.length b3 ∧ Ow wx base B1 b1 X ∧ Ow wx base B2 b2 Y ∧ Ow wx base B3 b3 Z
theorem words_add_len {a b n : Nat} (ha : (words a).length ≤ n) (hb : (words b).length ≤ n) : (words (a + b)).length ≤ n + 1 := by
  rw [words_len] at *
  rw [Nat.pow_succ]; omega
theorem words_mul_len {l m : List Int} {n : Nat} (hl : InR l) (hm : InR m) (h : l.length + m.length ≤ n) : (words (val l * val m)).length ≤ n := by
  rw [words_len]
  have h1 := val_lt hl
  have h2 := val_lt hm
  have h3 : val l * val m < 4294967296 ^ l.length * 4294967296 ^ m.length := Nat.mul_lt_mul'' h1 h2
  rw [← Nat.pow_add] at h3
  exact Nat.lt_of_lt_of_le h3 (Nat.pow_le_pow_right (by omega) h)

set_option maxHeartbeats 2000000 in
theorem plus_any (f k : F) (A A' : Option Addr) (c c' : Nat) (C C' : Option Addr) (d d' : Nat) (w : World) (h : Rd w A f.num) (h' : Rd w A' f.den) (hc : f.num.length ≤ c) (hc' : f.den.length ≤ c')
    (k1 : Rd w C k.num) (k2 : Rd w C' k.den) (hd : k.num.length ≤ d) (hd' : k.den.length ≤ d') (hf : f.ok) (hk : k.ok) :
    Calls Tryz.prog 26 #[.agg #[.bool f.neg, .slice A f.num.length c, .slice A' f.den.length c'], .agg #[.bool k.neg, .slice C k.num.length d, .slice C' k.den.length d']] w fun e w' =>
      ∃ v, e = .returned (.tuple #[v, .int .i64 (tell (f.q + k.q)).2]) ∧ OwR w' w.heap.size v (tell (f.q + k.q)).1 ∧ Below w.heap.size w w' := by
  have HQ := Lib.hid (plus_q hf hk)
  generalize f.q + k.q = r at *
  have T1 := Lib.hid (fun (W : World) (hb : Below w.heap.size w W) => times_any A C' c d' f.num k.den W (h.below hb) (k2.below hb) hf.1 hk.2.1 (by have := hf.2.2.1; have := hk.2.2.2.1; omega))
  have T2 := Lib.hid (fun (W : World) (hb : Below w.heap.size w W) => times_any C A' d c' k.num f.den W (k1.below hb) (h'.below hb) hk.1 hf.2.1 (by have := hk.2.2.1; have := hf.2.2.2.1; omega))
  have T3 := Lib.hid (fun (W : World) (hb : Below w.heap.size w W) => times_any A' C' c' d' f.den k.den W (h'.below hb) (k2.below hb) hf.2.1 hk.2.1 (by have := hf.2.2.2.1; have := hk.2.2.2.1; omega))
  have lx : (words (val f.num * val k.den)).length ≤ 4096 := words_mul_len h.inr k2.inr (by have := hf.2.2.1; have := hk.2.2.2.1; omega)
  have ly : (words (val k.num * val f.den)).length ≤ 4096 := words_mul_len k1.inr h'.inr (by have := hk.2.2.1; have := hf.2.2.2.1; omega)
  have lz : (words (val f.den * val k.den)).length ≤ 4096 := words_mul_len h'.inr k2.inr (by have := hf.2.2.2.1; have := hk.2.2.2.1; omega)
  have z0 : val f.den * val k.den ≠ 0 := Nat.mul_ne_zero hf.den_pos hk.den_pos
  obtain ⟨fn, fl, fm⟩ := f
  obtain ⟨kn, kl, km⟩ := k
  simp only at *
  generalize val fl * val km = x at *
  generalize val kl * val fm = y at *
  generalize val fm * val km = z at *
  have Z0 : words z ≠ [] := fun e => z0 (words_eq_nil.1 e)
  have L : ∀ (neg : Bool) (s : Nat) (B B3 : Option Addr) (b b3 : Nat) (W : World), (words s).length ≤ 8190 → Rd W B (words s) → Rd W B3 (words z) → (words s).length ≤ b → (words z).length ≤ b3 → _ :=
    fun neg s B B3 b b3 W l r1 r2 c1 c2 => lowest_any neg B B3 b b3 (words s) (words z) W r1 r2 (words_norm s) (words_norm z) l (by omega) c1 c2 Z0
  have A1 : ∀ (B1 B2 : Option Addr) (b1 b2 : Nat) (W : World), Rd W B1 (words x) → Rd W B2 (words y) → _ :=
    fun B1 B2 b1 b2 W r1 r2 => Add_any B1 B2 b1 b2 (words x) (words y) W r1 r2 (words_norm x) (by omega) (words_norm y) (by omega)
  have A2 : val (words x) ≤ val (words y) → ∀ (B1 B2 : Option Addr) (b1 b2 : Nat) (W : World), Rd W B1 (words x) → Rd W B2 (words y) → (words x).length ≤ b1 → (words y).length ≤ b2 → _ :=
    fun hle B1 B2 b1 b2 W r1 r2 c1 c2 => Sub_any B2 B1 b2 b1 (words y) (words x) W r2 r1 (words_norm y) (by omega) (words_norm x) (by omega) c2 c1 hle
  have A3 : val (words y) ≤ val (words x) → ∀ (B1 B2 : Option Addr) (b1 b2 : Nat) (W : World), Rd W B1 (words x) → Rd W B2 (words y) → (words x).length ≤ b1 → (words y).length ≤ b2 → _ :=
    fun hle B1 B2 b1 b2 W r1 r2 c1 c2 => Sub_any B1 B2 b1 b2 (words x) (words y) W r1 r2 (words_norm x) (by omega) (words_norm y) (by omega) c1 c2 hle
  have K1 : ∀ (B1 B2 : Option Addr) (b1 b2 : Nat) (W : World), Rd W B1 (words x) → Rd W B2 (words y) → (words x).length ≤ b1 → (words y).length ≤ b2 → _ :=
    fun B1 B2 b1 b2 W r1 r2 c1 c2 => Compare_any B1 B2 b1 b2 (words x) (words y) W r1 c1 r2 c2
  simp only [val_words] at L A1 A2 A3 K1
  have l1 : (words (x + y)).length ≤ 8190 := Nat.le_trans (words_add_len lx ly) (by omega)
  have l2 : (words (y - x)).length ≤ 8190 := Nat.le_trans (words_le (Nat.sub_le y x) ly) (by omega)
  have l3 : (words (x - y)).length ≤ 8190 := Nat.le_trans (words_le (Nat.sub_le x y) lx) (by omega)
  have L1 := Lib.hid (fun neg B B3 b b3 W => L neg _ B B3 b b3 W l1)
  have L2 := Lib.hid (fun neg B B3 b b3 W => L neg _ B B3 b b3 W l2)
  have L3 := Lib.hid (fun neg B B3 b b3 W => L neg _ B B3 b b3 W l3)
  have HA1 := Lib.hid A1
  have HA2 := Lib.hid A2
  have HA3 := Lib.hid A3
  have HC := Lib.hid K1
  clear L A1 A2 A3 K1 l1 l2 l3 lx ly lz z0 Z0 hf hk
  generalize words (x + y) = S1 at *
  generalize words (y - x) = S2 at *
  generalize words (x - y) = S3 at *
  generalize words x = X at *
  generalize words y = Y at *
  generalize words z = Z at *
  generalize Value.slice A fl.length c = va at *
  generalize Value.slice A' fm.length c' = vb at *
  generalize Value.slice C kl.length d = vc at *
  generalize Value.slice C' km.length d' = vd at *
  clear h h' k1 k2 hc hc' hd hd'
  obtain ⟨w0, e0, hK0⟩ := kp3 w 24 24 24 #[.bool fn, va, vb] #[.bool kn, vc, vd] #[.bool false, .slice none 0 0, .slice none 0 0]
  have HT := Lib.hid hK0
  have S1' := Lib.hid (fun (W : World) (hK : Kp w [(w.heap.size, 24, #[.bool fn, va, vb]), (w.heap.size + 1, 24, #[.bool kn, vc, vd]), (w.heap.size + 2, 24, #[.bool false, .slice none 0 0, .slice none 0 0])] [] W) => T1.out W hK.low)
  have S2' := Lib.hid (fun (W : World) (hK : Kp w [(w.heap.size, 24, #[.bool fn, va, vb]), (w.heap.size + 1, 24, #[.bool kn, vc, vd]), (w.heap.size + 2, 24, #[.bool false, .slice none 0 0, .slice none 0 0])] [] W) => T2.out W hK.low)
  have S3' := Lib.hid (fun (W : World) (hK : Kp w [(w.heap.size, 24, #[.bool fn, va, vb]), (w.heap.size + 1, 24, #[.bool kn, vc, vd]), (w.heap.size + 2, 24, #[.bool false, .slice none 0 0, .slice none 0 0])] [] W) => T3.out W hK.low)
  clear T1 T2 T3 hK0
  go_enter Tryz.func26, Tryz.ntmps26
  go_wp2_with fail
  rw [← e0]
  clear e0
  go_upto_region 1 with fail
  go_cut [6, 7, 8] (fun s6 s7 s8 wx => Prod3 w.heap.size X Y Z s6 s7 s8 wx ∧ Kp w [(w.heap.size, 24, #[.bool fn, va, vb]), (w.heap.size + 1, 24, #[.bool kn, vc, vd]), (w.heap.size + 2, 24, #[.bool false, .slice none 0 0, .slice none 0 0])] [] wx)
  case first =>
    obtain ⟨_, p0, p1, p2, q0, q1, q2⟩ := HT.out.six
    go_region_held3 (fun W => Kp w [(w.heap.size, 24, #[.bool fn, va, vb]), (w.heap.size + 1, 24, #[.bool kn, vc, vd]), (w.heap.size + 2, 24, #[.bool false, .slice none 0 0, .slice none 0 0])] [] W ∧ W.cell? ⟨w.heap.size, 0, none⟩ = some (.bool fn) ∧ W.cell? ⟨w.heap.size, 1, none⟩ = some va ∧ W.cell? ⟨w.heap.size, 2, none⟩ = some vb ∧ W.cell? ⟨w.heap.size + 1, 0, none⟩ = some (.bool kn) ∧ W.cell? ⟨w.heap.size + 1, 1, none⟩ = some vc ∧ W.cell? ⟨w.heap.size + 1, 2, none⟩ = some vd) (first | exact HT.out.six | exact HT.out.drew.six) (first | (go_at_call 21; (with_reducible refine (S1'.out _ ?_).mono ?_); (first | exact HT.out | exact HT.out.drew | exact HT.out.drewN _); rintro e w1 ⟨B1, b1, rfl, hO1, hB1⟩; have HO1 := Lib.hid (hO1.mono (base' := w.heap.size) HT.out.size); have HB1 := Lib.hid hB1; (first | have HT := Lib.hid (HT.out.below hB1) | have HT := Lib.hid (HT.out.drew.below hB1)); clear hO1 hB1) | (go_at_call 21; (with_reducible refine (S2'.out _ ?_).mono ?_); (first | exact HT.out | exact HT.out.drew | exact HT.out.drewN _); rintro e w2 ⟨B2, b2, rfl, hO2, hB2⟩; have HO2 := Lib.hid (hO2.mono (base' := w.heap.size) HT.out.size); have HB2 := Lib.hid hB2; (first | have HT := Lib.hid (HT.out.below hB2) | have HT := Lib.hid (HT.out.drew.below hB2)); clear hO2 hB2) | (go_at_call 21; (with_reducible refine (S3'.out _ ?_).mono ?_); (first | exact HT.out | exact HT.out.drew | exact HT.out.drewN _); rintro e w3 ⟨B3, b3, rfl, hO3, hB3⟩; have HO3 := Lib.hid (hO3.mono (base' := w.heap.size) HT.out.size); have HB3 := Lib.hid hB3; (first | have HT := Lib.hid (HT.out.below hB3) | have HT := Lib.hid (HT.out.drew.below hB3)); clear hO3 hB3))
    all_goals (go_wp2_with fail; go_meet; exact ⟨⟨B1, b1, B2, b2, B3, b3, rfl, rfl, rfl, (by first | exact HO1.out | exact HO1.out.below HB2.out | exact HO1.out.below HB3.out | exact (HO1.out.below HB2.out).below HB3.out | exact (HO1.out.below HB3.out).below HB2.out), (by first | exact HO2.out | exact HO2.out.below HB1.out | exact HO2.out.below HB3.out | exact (HO2.out.below HB1.out).below HB3.out | exact (HO2.out.below HB3.out).below HB1.out), (by first | exact HO3.out | exact HO3.out.below HB1.out | exact HO3.out.below HB2.out | exact (HO3.out.below HB1.out).below HB2.out | exact (HO3.out.below HB2.out).below HB1.out)⟩, HT.out⟩)
  case rest =>
    obtain ⟨⟨B1, b1, B2, b2, B3, b3, rfl, rfl, rfl, hO1, hO2, hO3⟩, hK⟩ := hcut
    have HK := Lib.hid (((hK.add hO1 (Nat.le_refl _)).add hO2 (Nat.le_refl _)).add hO3 (Nat.le_refl _))
    clear hO1 hO2 hO3 hK S1' S2' S3' HT
    obtain ⟨_, p0, p1, p2, q0, q1, q2⟩ := HK.out.six
    by_cases hs : fn = kn
    · have hr := HQ.out
      rw [if_pos hs] at hr
      subst hr hs
      go_wp2_with fail
      refine (HA1.out B1 B2 b1 b2 _ (HK.out.own (B1, b1, X) (by simp)).rd (HK.out.own (B2, b2, Y) (by simp)).rd).mono ?_
      rintro e w2 ⟨B, b, rfl, hO, hB⟩
      have HK := Lib.hid ((HK.out.below hB).add hO HK.out.size)
      clear hO hB p0 p1 p2 q0 q1 q2
      have hcells := HK.out.six
      obtain ⟨_, p0, p1, p2, q0, q1, q2⟩ := hcells
      go_wp2_with fail
      refine (L1.out fn B B3 b b3 _ (HK.out.own (B, b, S1) (by simp)).rd (HK.out.own (B3, b3, Z) (by simp)).rd (HK.out.own (B, b, S1) (by simp)).le (HK.out.own (B3, b3, Z) (by simp)).le).mono ?_
      rintro e w4 ⟨v, rfl, ⟨C1, c1, C2, c2, hv, h1, h2⟩, hB⟩
      have HG := Lib.hid HK.out.b2.lt
      have HK := Lib.hid (HK.out.below hB)
      have H1 := Lib.hid h1
      have H2 := Lib.hid h2
      clear h1 h2 hB p0 p1 p2 q0 q1 q2
      subst hv
      have hk3 := HK.out.b2
      have hc0 : w4.cell? ⟨w.heap.size + 2, 0, none⟩ = some (.bool false) := hk3.cell 0
      have hc1 : w4.cell? ⟨w.heap.size + 2, 1, none⟩ = some (.slice none 0 0) := hk3.cell 1
      have hc2 : w4.cell? ⟨w.heap.size + 2, 2, none⟩ = some (.slice none 0 0) := hk3.cell 2
      have hf := hk3.frozen
      go_wp2_with fail
      exact done_r _ _ C1 c1 C2 c2 w w4 (w.heap.size + 2) _ (by omega) HG.out hk3 HK.out.low H1.out H2.out (by
        intro w5 ha0 ha1 ha2 Q hQ
        exact bodyPost_ret (by simp [results, Tryz.results26, go_sem, ha0, ha1, ha2]) rfl hQ)

    · have hr := HQ.out
      rw [if_neg hs] at hr
      have hs' : (fn == kn) = false := beq_eq_false_iff_ne.2 hs
      by_cases hxy : x < y
      · rw [if_pos hxy] at hr
        subst hr
        have hcm : cmpN x y = -1 := by unfold cmpN; rw [if_pos hxy]
        go_wp2_with fail
        refine (HC.out B1 B2 b1 b2 _ (HK.out.own (B1, b1, X) (by simp)).rd (HK.out.own (B2, b2, Y) (by simp)).rd (HK.out.own (B1, b1, X) (by simp)).le (HK.out.own (B2, b2, Y) (by simp)).le).mono ?_
        rw [hcm]
        clear hcm
        rintro e w1 ⟨rfl, n, rfl⟩
        have HK := Lib.hid (HK.out.drewN n)
        go_wp2_with fail
        refine (HA2.out (by omega) B1 B2 b1 b2 _ (HK.out.own (B1, b1, X) (by simp)).rd (HK.out.own (B2, b2, Y) (by simp)).rd (HK.out.own (B1, b1, X) (by simp)).le (HK.out.own (B2, b2, Y) (by simp)).le).mono ?_
        rintro e w2 ⟨B, b, rfl, hO, hB⟩
        have HK := Lib.hid ((HK.out.below hB).add hO HK.out.size)
        clear hO hB p0 p1 p2 q0 q1 q2
        have hcells := HK.out.six
        obtain ⟨_, p0, p1, p2, q0, q1, q2⟩ := hcells
        go_wp2_with fail
        refine (L2.out kn B B3 b b3 _ (HK.out.own (B, b, S2) (by simp)).rd (HK.out.own (B3, b3, Z) (by simp)).rd (HK.out.own (B, b, S2) (by simp)).le (HK.out.own (B3, b3, Z) (by simp)).le).mono ?_
        rintro e w4 ⟨v, rfl, ⟨C1, c1, C2, c2, hv, h1, h2⟩, hB⟩
        have HG := Lib.hid HK.out.b2.lt
        have HK := Lib.hid (HK.out.below hB)
        have H1 := Lib.hid h1
        have H2 := Lib.hid h2
        clear h1 h2 hB p0 p1 p2 q0 q1 q2
        subst hv
        have hk3 := HK.out.b2
        have hc0 : w4.cell? ⟨w.heap.size + 2, 0, none⟩ = some (.bool false) := hk3.cell 0
        have hc1 : w4.cell? ⟨w.heap.size + 2, 1, none⟩ = some (.slice none 0 0) := hk3.cell 1
        have hc2 : w4.cell? ⟨w.heap.size + 2, 2, none⟩ = some (.slice none 0 0) := hk3.cell 2
        have hf := hk3.frozen
        go_wp2_with fail
        exact done_r _ _ C1 c1 C2 c2 w w4 (w.heap.size + 2) _ (by omega) HG.out hk3 HK.out.low H1.out H2.out (by
          intro w5 ha0 ha1 ha2 Q hQ
          exact bodyPost_ret (by simp [results, Tryz.results26, go_sem, ha0, ha1, ha2]) rfl hQ)

      · rw [if_neg hxy] at hr
        subst hr
        have hcm : cmpN x y = 0 ∨ cmpN x y = 1 := by
          unfold cmpN; rw [if_neg hxy]; split
          · exact .inr rfl
          · exact .inl rfl
        have hm1 := (HC.out B1 B2 b1 b2 _ (HK.out.own (B1, b1, X) (by simp)).rd (HK.out.own (B2, b2, Y) (by simp)).rd (HK.out.own (B1, b1, X) (by simp)).le (HK.out.own (B2, b2, Y) (by simp)).le)
        generalize cmpN x y = m at *
        have HM := Lib.hid hm1
        clear hm1
        rcases hcm with rfl | rfl
        all_goals
          go_wp2_with fail
          refine HM.out.mono ?_
          rintro e w1 ⟨rfl, n, rfl⟩
          have HK := Lib.hid (HK.out.drewN n)
          go_wp2_with fail
          refine (HA3.out (by omega) B1 B2 b1 b2 _ (HK.out.own (B1, b1, X) (by simp)).rd (HK.out.own (B2, b2, Y) (by simp)).rd (HK.out.own (B1, b1, X) (by simp)).le (HK.out.own (B2, b2, Y) (by simp)).le).mono ?_
          rintro e w2 ⟨B, b, rfl, hO, hB⟩
          have HK := Lib.hid ((HK.out.below hB).add hO HK.out.size)
          clear hO hB p0 p1 p2 q0 q1 q2
          have hcells := HK.out.six
          obtain ⟨_, p0, p1, p2, q0, q1, q2⟩ := hcells
          go_wp2_with fail
          refine (L3.out fn B B3 b b3 _ (HK.out.own (B, b, S3) (by simp)).rd (HK.out.own (B3, b3, Z) (by simp)).rd (HK.out.own (B, b, S3) (by simp)).le (HK.out.own (B3, b3, Z) (by simp)).le).mono ?_
          rintro e w4 ⟨v, rfl, ⟨C1, c1, C2, c2, hv, h1, h2⟩, hB⟩
          have HG := Lib.hid HK.out.b2.lt
          have HK := Lib.hid (HK.out.below hB)
          have H1 := Lib.hid h1
          have H2 := Lib.hid h2
          clear h1 h2 hB p0 p1 p2 q0 q1 q2
          subst hv
          have hk3 := HK.out.b2
          have hc0 : w4.cell? ⟨w.heap.size + 2, 0, none⟩ = some (.bool false) := hk3.cell 0
          have hc1 : w4.cell? ⟨w.heap.size + 2, 1, none⟩ = some (.slice none 0 0) := hk3.cell 1
          have hc2 : w4.cell? ⟨w.heap.size + 2, 2, none⟩ = some (.slice none 0 0) := hk3.cell 2
          have hf := hk3.frozen
          go_wp2_with fail
          exact done_r _ _ C1 c1 C2 c2 w w4 (w.heap.size + 2) _ (by omega) HG.out hk3 HK.out.low H1.out H2.out (by
            intro w5 ha0 ha1 ha2 Q hQ
            exact bodyPost_ret (by simp [results, Tryz.results26, go_sem, ha0, ha1, ha2]) rfl hQ)

end Go.Proofs.YtbjclfmplndkcaaGreatDoor
