/-
  PACKAGE ratio: Quo.
-/
import Derived.Test.YtbjclfmplndkcaaGreatDoorRh
import Derived.Deep.RegionHeld3
set_option linter.unusedVariables false
set_option linter.unusedSimpArgs false
set_option linter.unnecessarySimpa false
namespace Go.Proofs.YtbjclfmplndkcaaGreatDoor
open Go.RowKit Pl

set_option maxHeartbeats 1000000 in
theorem Quo0_no (f k : F) (A A' : Option Addr) (c c' : Nat) (C C' : Option Addr) (d d' : Nat) (w : World) (h : Rd w A f.num) (h' : Rd w A' f.den) (hc : f.num.length ≤ c) (hc' : f.den.length ≤ c')
    (k1 : Rd w C k.num) (k2 : Rd w C' k.den) (hd : k.num.length ≤ d) (hd' : k.den.length ≤ d') (hx : ck2 f k ≠ 0) :
    Calls Tryz.prog 16 #[.agg #[.bool f.neg, .slice A f.num.length c, .slice A' f.den.length c'], .agg #[.bool k.neg, .slice C k.num.length d, .slice C' k.den.length d']] w fun e w' =>
      ∃ v, e = .returned (.tuple #[v, .int .i64 (ck2 f k)]) ∧ OwR w' w.heap.size v F.zero ∧ Below w.heap.size w w' := by
  have C1 := Lib.hid (fun W r1 r2 r3 r4 => checks_any f k A A' c c' C C' d d' W r1 r2 hc hc' r3 r4 hd hd')
  unfold ck2 at hx ⊢
  generalize (if chk f = 0 then chk k else chk f) = x at *
  have hx' : (x != 0) = true := bne_iff_ne.2 hx
  obtain ⟨w0, e0, hK0⟩ := kp3 w 24 24 24 #[.bool f.neg, .slice A f.num.length c, .slice A' f.den.length c'] #[.bool k.neg, .slice C k.num.length d, .slice C' k.den.length d'] #[.bool false, .slice none 0 0, .slice none 0 0]
  have HK := Lib.hid hK0
  clear hK0
  go_enter Tryz.func16, Tryz.ntmps16
  go_wp2_with fail
  rw [← e0]
  clear e0
  obtain ⟨_, p0, p1, p2, q0, q1, q2⟩ := HK.out.six
  go_wp2_with fail
  refine (C1.out w0 (h.below HK.out.low) (h'.below HK.out.low) (k1.below HK.out.low) (k2.below HK.out.low)).mono ?_
  rintro e w1 ⟨rfl, hB1⟩
  have HK := Lib.hid (HK.out.below hB1)
  clear hB1 p0 p1 p2 q0 q1 q2
  have hk3 := HK.out.b2
  have hc0 : w1.cell? ⟨w.heap.size + 2, 0, none⟩ = some (.bool false) := hk3.cell 0
  have hc1 : w1.cell? ⟨w.heap.size + 2, 1, none⟩ = some (.slice none 0 0) := hk3.cell 1
  have hc2 : w1.cell? ⟨w.heap.size + 2, 2, none⟩ = some (.slice none 0 0) := hk3.cell 2
  have hf := hk3.frozen
  go_wp2_with fail
  exact done_z x w w1 (w.heap.size + 2) (by omega) hk3 HK.out.low (by
    intro w5 ha0 ha1 ha2 Q hQ
    exact bodyPost_ret (by simp [results, Tryz.results16, go_sem, ha0, ha1, ha2]) rfl hQ)

set_option maxHeartbeats 1000000 in
theorem Quo0_zero (f k : F) (A A' : Option Addr) (c c' : Nat) (C C' : Option Addr) (d d' : Nat) (w : World) (h : Rd w A f.num) (h' : Rd w A' f.den) (hc : f.num.length ≤ c) (hc' : f.den.length ≤ c')
    (k1 : Rd w C k.num) (k2 : Rd w C' k.den) (hd : k.num.length ≤ d) (hd' : k.den.length ≤ d') (hf : f.ok) (hk : k.ok) (hn : k.num.length = 0) :
    Calls Tryz.prog 16 #[.agg #[.bool f.neg, .slice A f.num.length c, .slice A' f.den.length c'], .agg #[.bool k.neg, .slice C k.num.length d, .slice C' k.den.length d']] w fun e w' =>
      ∃ v, e = .returned (.tuple #[v, .int .i64 7]) ∧ OwR w' w.heap.size v F.zero ∧ Below w.heap.size w w' := by
  have z : (if chk f = 0 then chk k else chk f) = 0 := by
    rw [if_pos ((chk_ok h.inr h'.inr).2 hf)]; exact (chk_ok k1.inr k2.inr).2 hk
  have C1 := checks_any f k A A' c c' C C' d d'
  rw [z] at C1
  have HC1 := Lib.hid (fun W r1 r2 r3 r4 => C1 W r1 r2 hc hc' r3 r4 hd hd')
  clear C1 z hf hk
  have hn0 : ((k.num.length : Int) == 0) = true := by rw [hn]; rfl
  clear hn
  obtain ⟨w0, e0, hK0⟩ := kp3 w 24 24 24 #[.bool f.neg, .slice A f.num.length c, .slice A' f.den.length c'] #[.bool k.neg, .slice C k.num.length d, .slice C' k.den.length d'] #[.bool false, .slice none 0 0, .slice none 0 0]
  have HK := Lib.hid hK0
  clear hK0
  go_enter Tryz.func16, Tryz.ntmps16
  go_wp2_with fail
  rw [← e0]
  clear e0
  obtain ⟨_, p0, p1, p2, q0, q1, q2⟩ := HK.out.six
  go_wp2_with fail
  refine (HC1.out w0 (h.below HK.out.low) (h'.below HK.out.low) (k1.below HK.out.low) (k2.below HK.out.low)).mono ?_
  rintro e w1 ⟨rfl, hB1⟩
  have HK := Lib.hid (HK.out.below hB1)
  clear hB1 p0 p1 p2 q0 q1 q2
  obtain ⟨_, p0, p1, p2, q0, q1, q2⟩ := HK.out.six
  have hk3 := HK.out.b2
  have hc0 : w1.cell? ⟨w.heap.size + 2, 0, none⟩ = some (.bool false) := hk3.cell 0
  have hc1 : w1.cell? ⟨w.heap.size + 2, 1, none⟩ = some (.slice none 0 0) := hk3.cell 1
  have hc2 : w1.cell? ⟨w.heap.size + 2, 2, none⟩ = some (.slice none 0 0) := hk3.cell 2
  have hf := hk3.frozen
  go_wp2_with fail
  exact done_z 7 w w1 (w.heap.size + 2) (by omega) hk3 HK.out.low (by
    intro w5 ha0 ha1 ha2 Q hQ
    exact bodyPost_ret (by simp [results, Tryz.results16, go_sem, ha0, ha1, ha2]) rfl hQ)

set_option maxHeartbeats 2000000 in
theorem Quo0_ok (f k : F) (A A' : Option Addr) (c c' : Nat) (C C' : Option Addr) (d d' : Nat) (w : World) (h : Rd w A f.num) (h' : Rd w A' f.den) (hc : f.num.length ≤ c) (hc' : f.den.length ≤ c')
    (k1 : Rd w C k.num) (k2 : Rd w C' k.den) (hd : k.num.length ≤ d) (hd' : k.den.length ≤ d') (hf : f.ok) (hk : k.ok) (hn : k.num ≠ []) :
    Calls Tryz.prog 16 #[.agg #[.bool f.neg, .slice A f.num.length c, .slice A' f.den.length c'], .agg #[.bool k.neg, .slice C k.num.length d, .slice C' k.den.length d']] w fun e w' =>
      ∃ v, e = .returned (.tuple #[v, .int .i64 (tell (f.q / k.q)).2]) ∧ OwR w' w.heap.size v (tell (f.q / k.q)).1 ∧ Below w.heap.size w w' := by
  have z : (if chk f = 0 then chk k else chk f) = 0 := by
    rw [if_pos ((chk_ok h.inr h'.inr).2 hf)]; exact (chk_ok k1.inr k2.inr).2 hk
  have C1 := checks_any f k A A' c c' C C' d d'
  rw [z] at C1
  have HC1 := Lib.hid (fun W r1 r2 r3 r4 => C1 W r1 r2 hc hc' r3 r4 hd hd')
  clear C1 z
  have HQ := Lib.hid (quo_q hf hk hn)
  generalize f.q / k.q = r at *
  have T1 := Lib.hid (fun (W : World) (hb : Below w.heap.size w W) => times_any A C' c d' f.num k.den W (h.below hb) (k2.below hb) hf.1 hk.2.1 (by have := hf.2.2.1; have := hk.2.2.2.1; omega))
  have T2 := Lib.hid (fun (W : World) (hb : Below w.heap.size w W) => times_any A' C c' d f.den k.num W (h'.below hb) (k1.below hb) hf.2.1 hk.1 (by have := hf.2.2.2.1; have := hk.2.2.1; omega))
  have lx : (words (val f.num * val k.den)).length ≤ 4096 := words_mul_len h.inr k2.inr (by have := hf.2.2.1; have := hk.2.2.2.1; omega)
  have ly : (words (val f.den * val k.num)).length ≤ 4096 := words_mul_len h'.inr k1.inr (by have := hf.2.2.2.1; have := hk.2.2.1; omega)
  have z0 : val f.den * val k.num ≠ 0 := Nat.mul_ne_zero hf.den_pos (fun e => hn ((val_eq_zero hk.1).1 e))
  clear hf hk
  obtain ⟨fn, fl, fm⟩ := f
  obtain ⟨kn, kl, km⟩ := k
  simp only at *
  have hn0 : ((kl.length : Int) == 0) = false := by have := List.length_pos_iff.2 hn; exact beq_eq_false_iff_ne.2 (by omega)
  have hlen := k1.len
  clear hn
  generalize val fl * val km = x at *
  generalize val fm * val kl = y at *
  have Z0 : words y ≠ [] := fun e => z0 (words_eq_nil.1 e)
  have L : ∀ (neg : Bool) (B B3 : Option Addr) (b b3 : Nat) (W : World), Rd W B (words x) → Rd W B3 (words y) → (words x).length ≤ b → (words y).length ≤ b3 → _ :=
    fun neg B B3 b b3 W r1 r2 c1 c2 => lowest_any neg B B3 b b3 (words x) (words y) W r1 r2 (words_norm x) (words_norm y) (by omega) (by omega) c1 c2 Z0
  simp only [val_words] at L
  have HL := Lib.hid L
  clear L Z0 z0 lx ly
  generalize words x = X at *
  generalize words y = Y at *
  obtain ⟨s, hs⟩ : ∃ s, s = (fn != kn) := ⟨_, rfl⟩
  have hr := HQ.out
  rw [← hs] at hr
  subst hr
  have hs' : (fn = false ∧ kn = false ∧ s = false) ∨ (fn = false ∧ kn = true ∧ s = true) ∨ (fn = true ∧ kn = false ∧ s = true) ∨ (fn = true ∧ kn = true ∧ s = false) := by
    rw [hs]; cases fn <;> cases kn <;> simp
  clear hs HQ
  rcases hs' with ⟨rfl, rfl, rfl⟩ | ⟨rfl, rfl, rfl⟩ | ⟨rfl, rfl, rfl⟩ | ⟨rfl, rfl, rfl⟩
  · obtain ⟨w0, e0, hK0⟩ := kp3 w 24 24 24 #[.bool false, .slice A fl.length c, .slice A' fm.length c'] #[.bool false, .slice C kl.length d, .slice C' km.length d'] #[.bool false, .slice none 0 0, .slice none 0 0]
    have HK := Lib.hid hK0
    clear hK0
    go_enter Tryz.func16, Tryz.ntmps16
    go_wp2_with fail
    rw [← e0]
    clear e0
    obtain ⟨_, p0, p1, p2, q0, q1, q2⟩ := HK.out.six
    go_wp2_with fail
    refine (HC1.out w0 (h.below HK.out.low) (h'.below HK.out.low) (k1.below HK.out.low) (k2.below HK.out.low)).mono ?_
    rintro e w1 ⟨rfl, hB1⟩
    have HK := Lib.hid (HK.out.below hB1)
    clear hB1 p0 p1 p2 q0 q1 q2
    obtain ⟨_, p0, p1, p2, q0, q1, q2⟩ := HK.out.six
    go_wp2_with fail
    have HT := Lib.hid HK.out.two
    have hc0 : True := trivial
    have hc1 : True := trivial
    have hc2 : True := trivial
    have hf : True := trivial
    go_region_held3 (fun W => Kp w [(w.heap.size, 24, #[.bool false, .slice A fl.length c, .slice A' fm.length c']), (w.heap.size + 1, 24, #[.bool false, .slice C kl.length d, .slice C' km.length d'])] [] W ∧ W.cell? ⟨w.heap.size, 0, none⟩ = some (.bool false) ∧ W.cell? ⟨w.heap.size, 1, none⟩ = some (.slice A fl.length c) ∧ W.cell? ⟨w.heap.size, 2, none⟩ = some (.slice A' fm.length c') ∧ W.cell? ⟨w.heap.size + 1, 0, none⟩ = some (.bool false) ∧ W.cell? ⟨w.heap.size + 1, 1, none⟩ = some (.slice C kl.length d) ∧ W.cell? ⟨w.heap.size + 1, 2, none⟩ = some (.slice C' km.length d')) (first | exact HT.out.six | exact HT.out.drew.six | exact (HT.out.st3 (g := w.heap.size + 2) (by simp) (by simp) (by omega) _ _ _).six)
      (first | (go_at_call 21; (with_reducible refine (T1.out _ ?_).mono ?_); (first | exact HK.out.low | exact HK.out.low.drew); rintro e w1 ⟨B1, b1, rfl, hO1, hB1⟩; have HO1 := Lib.hid (hO1.mono (base' := w.heap.size) HK.out.size); have HB1 := Lib.hid hB1; (first | have HK := Lib.hid (HK.out.below hB1) | have HK := Lib.hid (HK.out.drew.below hB1)); have HT := Lib.hid HK.out.two; clear hO1 hB1) | (go_at_call 21; (with_reducible refine (T2.out _ ?_).mono ?_); (first | exact HK.out.low | exact HK.out.low.drew); rintro e w2 ⟨B2, b2, rfl, hO2, hB2⟩; have HO2 := Lib.hid (hO2.mono (base' := w.heap.size) HK.out.size); have HB2 := Lib.hid hB2; (first | have HK := Lib.hid (HK.out.below hB2) | have HK := Lib.hid (HK.out.drew.below hB2)); have HT := Lib.hid HK.out.two; clear hO2 hB2) | (go_at_call 32; (first | have HP1 := Lib.hid (HO1.out.below HB2.out) | have HP1 := Lib.hid HO1.out); (first | have HP2 := Lib.hid (HO2.out.below HB1.out) | have HP2 := Lib.hid HO2.out); (with_reducible refine (HL.out _ _ _ _ _ _ HP1.out.rd HP2.out.rd HP1.out.le HP2.out.le).mono ?_); rintro e w4 ⟨v, rfl, ⟨C1, c1, C2, c2, hv, h1, h2⟩, hB⟩; have HG := Lib.hid HK.out.b2.lt; have HK := Lib.hid (HK.out.below hB); have HT := Lib.hid HK.out.two; have H1 := Lib.hid h1; have H2 := Lib.hid h2; have hc0 : w4.cell? ⟨w.heap.size + 2, 0, none⟩ = some (.bool false) := HK.out.b2.cell 0; have hc1 : w4.cell? ⟨w.heap.size + 2, 1, none⟩ = some (.slice none 0 0) := HK.out.b2.cell 1; have hc2 : w4.cell? ⟨w.heap.size + 2, 2, none⟩ = some (.slice none 0 0) := HK.out.b2.cell 2; have hf := HK.out.b2.frozen; clear h1 h2 hB; subst hv))
    all_goals
      go_wp2_with fail
      exact done_r _ _ C1 c1 C2 c2 w w4 (w.heap.size + 2) _ (by omega) HG.out HK.out.b2 HK.out.low H1.out H2.out (by
        intro w5 ha0 ha1 ha2 Q hQ
        exact bodyPost_ret (by simp [results, Tryz.results16, go_sem, ha0, ha1, ha2]) rfl hQ)
  · obtain ⟨w0, e0, hK0⟩ := kp3 w 24 24 24 #[.bool false, .slice A fl.length c, .slice A' fm.length c'] #[.bool true, .slice C kl.length d, .slice C' km.length d'] #[.bool false, .slice none 0 0, .slice none 0 0]
    have HK := Lib.hid hK0
    clear hK0
    go_enter Tryz.func16, Tryz.ntmps16
    go_wp2_with fail
    rw [← e0]
    clear e0
    obtain ⟨_, p0, p1, p2, q0, q1, q2⟩ := HK.out.six
    go_wp2_with fail
    refine (HC1.out w0 (h.below HK.out.low) (h'.below HK.out.low) (k1.below HK.out.low) (k2.below HK.out.low)).mono ?_
    rintro e w1 ⟨rfl, hB1⟩
    have HK := Lib.hid (HK.out.below hB1)
    clear hB1 p0 p1 p2 q0 q1 q2
    obtain ⟨_, p0, p1, p2, q0, q1, q2⟩ := HK.out.six
    go_wp2_with fail
    have HT := Lib.hid HK.out.two
    have hc0 : True := trivial
    have hc1 : True := trivial
    have hc2 : True := trivial
    have hf : True := trivial
    go_region_held3 (fun W => Kp w [(w.heap.size, 24, #[.bool false, .slice A fl.length c, .slice A' fm.length c']), (w.heap.size + 1, 24, #[.bool true, .slice C kl.length d, .slice C' km.length d'])] [] W ∧ W.cell? ⟨w.heap.size, 0, none⟩ = some (.bool false) ∧ W.cell? ⟨w.heap.size, 1, none⟩ = some (.slice A fl.length c) ∧ W.cell? ⟨w.heap.size, 2, none⟩ = some (.slice A' fm.length c') ∧ W.cell? ⟨w.heap.size + 1, 0, none⟩ = some (.bool true) ∧ W.cell? ⟨w.heap.size + 1, 1, none⟩ = some (.slice C kl.length d) ∧ W.cell? ⟨w.heap.size + 1, 2, none⟩ = some (.slice C' km.length d')) (first | exact HT.out.six | exact HT.out.drew.six | exact (HT.out.st3 (g := w.heap.size + 2) (by simp) (by simp) (by omega) _ _ _).six)
      (first | (go_at_call 21; (with_reducible refine (T1.out _ ?_).mono ?_); (first | exact HK.out.low | exact HK.out.low.drew); rintro e w1 ⟨B1, b1, rfl, hO1, hB1⟩; have HO1 := Lib.hid (hO1.mono (base' := w.heap.size) HK.out.size); have HB1 := Lib.hid hB1; (first | have HK := Lib.hid (HK.out.below hB1) | have HK := Lib.hid (HK.out.drew.below hB1)); have HT := Lib.hid HK.out.two; clear hO1 hB1) | (go_at_call 21; (with_reducible refine (T2.out _ ?_).mono ?_); (first | exact HK.out.low | exact HK.out.low.drew); rintro e w2 ⟨B2, b2, rfl, hO2, hB2⟩; have HO2 := Lib.hid (hO2.mono (base' := w.heap.size) HK.out.size); have HB2 := Lib.hid hB2; (first | have HK := Lib.hid (HK.out.below hB2) | have HK := Lib.hid (HK.out.drew.below hB2)); have HT := Lib.hid HK.out.two; clear hO2 hB2) | (go_at_call 32; (first | have HP1 := Lib.hid (HO1.out.below HB2.out) | have HP1 := Lib.hid HO1.out); (first | have HP2 := Lib.hid (HO2.out.below HB1.out) | have HP2 := Lib.hid HO2.out); (with_reducible refine (HL.out _ _ _ _ _ _ HP1.out.rd HP2.out.rd HP1.out.le HP2.out.le).mono ?_); rintro e w4 ⟨v, rfl, ⟨C1, c1, C2, c2, hv, h1, h2⟩, hB⟩; have HG := Lib.hid HK.out.b2.lt; have HK := Lib.hid (HK.out.below hB); have HT := Lib.hid HK.out.two; have H1 := Lib.hid h1; have H2 := Lib.hid h2; have hc0 : w4.cell? ⟨w.heap.size + 2, 0, none⟩ = some (.bool false) := HK.out.b2.cell 0; have hc1 : w4.cell? ⟨w.heap.size + 2, 1, none⟩ = some (.slice none 0 0) := HK.out.b2.cell 1; have hc2 : w4.cell? ⟨w.heap.size + 2, 2, none⟩ = some (.slice none 0 0) := HK.out.b2.cell 2; have hf := HK.out.b2.frozen; clear h1 h2 hB; subst hv))
    all_goals
      go_wp2_with fail
      exact done_r _ _ C1 c1 C2 c2 w w4 (w.heap.size + 2) _ (by omega) HG.out HK.out.b2 HK.out.low H1.out H2.out (by
        intro w5 ha0 ha1 ha2 Q hQ
        exact bodyPost_ret (by simp [results, Tryz.results16, go_sem, ha0, ha1, ha2]) rfl hQ)
  · obtain ⟨w0, e0, hK0⟩ := kp3 w 24 24 24 #[.bool true, .slice A fl.length c, .slice A' fm.length c'] #[.bool false, .slice C kl.length d, .slice C' km.length d'] #[.bool false, .slice none 0 0, .slice none 0 0]
    have HK := Lib.hid hK0
    clear hK0
    go_enter Tryz.func16, Tryz.ntmps16
    go_wp2_with fail
    rw [← e0]
    clear e0
    obtain ⟨_, p0, p1, p2, q0, q1, q2⟩ := HK.out.six
    go_wp2_with fail
    refine (HC1.out w0 (h.below HK.out.low) (h'.below HK.out.low) (k1.below HK.out.low) (k2.below HK.out.low)).mono ?_
    rintro e w1 ⟨rfl, hB1⟩
    have HK := Lib.hid (HK.out.below hB1)
    clear hB1 p0 p1 p2 q0 q1 q2
    obtain ⟨_, p0, p1, p2, q0, q1, q2⟩ := HK.out.six
    go_wp2_with fail
    have HT := Lib.hid HK.out.two
    have hc0 : True := trivial
    have hc1 : True := trivial
    have hc2 : True := trivial
    have hf : True := trivial
    go_region_held3 (fun W => Kp w [(w.heap.size, 24, #[.bool true, .slice A fl.length c, .slice A' fm.length c']), (w.heap.size + 1, 24, #[.bool false, .slice C kl.length d, .slice C' km.length d'])] [] W ∧ W.cell? ⟨w.heap.size, 0, none⟩ = some (.bool true) ∧ W.cell? ⟨w.heap.size, 1, none⟩ = some (.slice A fl.length c) ∧ W.cell? ⟨w.heap.size, 2, none⟩ = some (.slice A' fm.length c') ∧ W.cell? ⟨w.heap.size + 1, 0, none⟩ = some (.bool false) ∧ W.cell? ⟨w.heap.size + 1, 1, none⟩ = some (.slice C kl.length d) ∧ W.cell? ⟨w.heap.size + 1, 2, none⟩ = some (.slice C' km.length d')) (first | exact HT.out.six | exact HT.out.drew.six | exact (HT.out.st3 (g := w.heap.size + 2) (by simp) (by simp) (by omega) _ _ _).six)
      (first | (go_at_call 21; (with_reducible refine (T1.out _ ?_).mono ?_); (first | exact HK.out.low | exact HK.out.low.drew); rintro e w1 ⟨B1, b1, rfl, hO1, hB1⟩; have HO1 := Lib.hid (hO1.mono (base' := w.heap.size) HK.out.size); have HB1 := Lib.hid hB1; (first | have HK := Lib.hid (HK.out.below hB1) | have HK := Lib.hid (HK.out.drew.below hB1)); have HT := Lib.hid HK.out.two; clear hO1 hB1) | (go_at_call 21; (with_reducible refine (T2.out _ ?_).mono ?_); (first | exact HK.out.low | exact HK.out.low.drew); rintro e w2 ⟨B2, b2, rfl, hO2, hB2⟩; have HO2 := Lib.hid (hO2.mono (base' := w.heap.size) HK.out.size); have HB2 := Lib.hid hB2; (first | have HK := Lib.hid (HK.out.below hB2) | have HK := Lib.hid (HK.out.drew.below hB2)); have HT := Lib.hid HK.out.two; clear hO2 hB2) | (go_at_call 32; (first | have HP1 := Lib.hid (HO1.out.below HB2.out) | have HP1 := Lib.hid HO1.out); (first | have HP2 := Lib.hid (HO2.out.below HB1.out) | have HP2 := Lib.hid HO2.out); (with_reducible refine (HL.out _ _ _ _ _ _ HP1.out.rd HP2.out.rd HP1.out.le HP2.out.le).mono ?_); rintro e w4 ⟨v, rfl, ⟨C1, c1, C2, c2, hv, h1, h2⟩, hB⟩; have HG := Lib.hid HK.out.b2.lt; have HK := Lib.hid (HK.out.below hB); have HT := Lib.hid HK.out.two; have H1 := Lib.hid h1; have H2 := Lib.hid h2; have hc0 : w4.cell? ⟨w.heap.size + 2, 0, none⟩ = some (.bool false) := HK.out.b2.cell 0; have hc1 : w4.cell? ⟨w.heap.size + 2, 1, none⟩ = some (.slice none 0 0) := HK.out.b2.cell 1; have hc2 : w4.cell? ⟨w.heap.size + 2, 2, none⟩ = some (.slice none 0 0) := HK.out.b2.cell 2; have hf := HK.out.b2.frozen; clear h1 h2 hB; subst hv))
    all_goals
      go_wp2_with fail
      exact done_r _ _ C1 c1 C2 c2 w w4 (w.heap.size + 2) _ (by omega) HG.out HK.out.b2 HK.out.low H1.out H2.out (by
        intro w5 ha0 ha1 ha2 Q hQ
        exact bodyPost_ret (by simp [results, Tryz.results16, go_sem, ha0, ha1, ha2]) rfl hQ)
  · obtain ⟨w0, e0, hK0⟩ := kp3 w 24 24 24 #[.bool true, .slice A fl.length c, .slice A' fm.length c'] #[.bool true, .slice C kl.length d, .slice C' km.length d'] #[.bool false, .slice none 0 0, .slice none 0 0]
    have HK := Lib.hid hK0
    clear hK0
    go_enter Tryz.func16, Tryz.ntmps16
    go_wp2_with fail
    rw [← e0]
    clear e0
    obtain ⟨_, p0, p1, p2, q0, q1, q2⟩ := HK.out.six
    go_wp2_with fail
    refine (HC1.out w0 (h.below HK.out.low) (h'.below HK.out.low) (k1.below HK.out.low) (k2.below HK.out.low)).mono ?_
    rintro e w1 ⟨rfl, hB1⟩
    have HK := Lib.hid (HK.out.below hB1)
    clear hB1 p0 p1 p2 q0 q1 q2
    obtain ⟨_, p0, p1, p2, q0, q1, q2⟩ := HK.out.six
    go_wp2_with fail
    have HT := Lib.hid HK.out.two
    have hc0 : True := trivial
    have hc1 : True := trivial
    have hc2 : True := trivial
    have hf : True := trivial
    go_region_held3 (fun W => Kp w [(w.heap.size, 24, #[.bool true, .slice A fl.length c, .slice A' fm.length c']), (w.heap.size + 1, 24, #[.bool true, .slice C kl.length d, .slice C' km.length d'])] [] W ∧ W.cell? ⟨w.heap.size, 0, none⟩ = some (.bool true) ∧ W.cell? ⟨w.heap.size, 1, none⟩ = some (.slice A fl.length c) ∧ W.cell? ⟨w.heap.size, 2, none⟩ = some (.slice A' fm.length c') ∧ W.cell? ⟨w.heap.size + 1, 0, none⟩ = some (.bool true) ∧ W.cell? ⟨w.heap.size + 1, 1, none⟩ = some (.slice C kl.length d) ∧ W.cell? ⟨w.heap.size + 1, 2, none⟩ = some (.slice C' km.length d')) (first | exact HT.out.six | exact HT.out.drew.six | exact (HT.out.st3 (g := w.heap.size + 2) (by simp) (by simp) (by omega) _ _ _).six)
      (first | (go_at_call 21; (with_reducible refine (T1.out _ ?_).mono ?_); (first | exact HK.out.low | exact HK.out.low.drew); rintro e w1 ⟨B1, b1, rfl, hO1, hB1⟩; have HO1 := Lib.hid (hO1.mono (base' := w.heap.size) HK.out.size); have HB1 := Lib.hid hB1; (first | have HK := Lib.hid (HK.out.below hB1) | have HK := Lib.hid (HK.out.drew.below hB1)); have HT := Lib.hid HK.out.two; clear hO1 hB1) | (go_at_call 21; (with_reducible refine (T2.out _ ?_).mono ?_); (first | exact HK.out.low | exact HK.out.low.drew); rintro e w2 ⟨B2, b2, rfl, hO2, hB2⟩; have HO2 := Lib.hid (hO2.mono (base' := w.heap.size) HK.out.size); have HB2 := Lib.hid hB2; (first | have HK := Lib.hid (HK.out.below hB2) | have HK := Lib.hid (HK.out.drew.below hB2)); have HT := Lib.hid HK.out.two; clear hO2 hB2) | (go_at_call 32; (first | have HP1 := Lib.hid (HO1.out.below HB2.out) | have HP1 := Lib.hid HO1.out); (first | have HP2 := Lib.hid (HO2.out.below HB1.out) | have HP2 := Lib.hid HO2.out); (with_reducible refine (HL.out _ _ _ _ _ _ HP1.out.rd HP2.out.rd HP1.out.le HP2.out.le).mono ?_); rintro e w4 ⟨v, rfl, ⟨C1, c1, C2, c2, hv, h1, h2⟩, hB⟩; have HG := Lib.hid HK.out.b2.lt; have HK := Lib.hid (HK.out.below hB); have HT := Lib.hid HK.out.two; have H1 := Lib.hid h1; have H2 := Lib.hid h2; have hc0 : w4.cell? ⟨w.heap.size + 2, 0, none⟩ = some (.bool false) := HK.out.b2.cell 0; have hc1 : w4.cell? ⟨w.heap.size + 2, 1, none⟩ = some (.slice none 0 0) := HK.out.b2.cell 1; have hc2 : w4.cell? ⟨w.heap.size + 2, 2, none⟩ = some (.slice none 0 0) := HK.out.b2.cell 2; have hf := HK.out.b2.frozen; clear h1 h2 hB; subst hv))
    all_goals
      go_wp2_with fail
      exact done_r _ _ C1 c1 C2 c2 w w4 (w.heap.size + 2) _ (by omega) HG.out HK.out.b2 HK.out.low H1.out H2.out (by
        intro w5 ha0 ha1 ha2 Q hQ
        exact bodyPost_ret (by simp [results, Tryz.results16, go_sem, ha0, ha1, ha2]) rfl hQ)

theorem Quo0_any (f k : F) (A A' : Option Addr) (c c' : Nat) (C C' : Option Addr) (d d' : Nat) (w : World) (h : Rd w A f.num) (h' : Rd w A' f.den) (hc : f.num.length ≤ c) (hc' : f.den.length ≤ c')
    (k1 : Rd w C k.num) (k2 : Rd w C' k.den) (hd : k.num.length ≤ d) (hd' : k.den.length ≤ d') :
    Calls Tryz.prog 16 #[.agg #[.bool f.neg, .slice A f.num.length c, .slice A' f.den.length c'], .agg #[.bool k.neg, .slice C k.num.length d, .slice C' k.den.length d']] w fun e w' =>
      ∃ v, e = .returned (.tuple #[v, .int .i64 (quoR f k).2]) ∧ OwR w' w.heap.size v (quoR f k).1 ∧ Below w.heap.size w w' := by
  by_cases hx : ck2 f k = 0
  · obtain ⟨hf, hk⟩ := (ck2_ok h.inr h'.inr k1.inr k2.inr).1 hx
    by_cases hn : k.num.length = 0
    · have e : quoR f k = (F.zero, 7) := by unfold quoR; rw [if_neg (by omega), if_pos hn]
      rw [e]
      exact Quo0_zero f k A A' c c' C C' d d' w h h' hc hc' k1 k2 hd hd' hf hk hn
    · have e : quoR f k = tell (f.q / k.q) := by unfold quoR; rw [if_neg (by omega), if_neg hn]
      rw [e]
      exact Quo0_ok f k A A' c c' C C' d d' w h h' hc hc' k1 k2 hd hd' hf hk (by intro e; rw [e] at hn; exact hn rfl)
  · have e : quoR f k = (F.zero, ck2 f k) := by unfold quoR; rw [if_pos hx]
    rw [e]
    exact Quo0_no f k A A' c c' C C' d d' w h h' hc hc' k1 k2 hd hd' hx
end Go.Proofs.YtbjclfmplndkcaaGreatDoor
