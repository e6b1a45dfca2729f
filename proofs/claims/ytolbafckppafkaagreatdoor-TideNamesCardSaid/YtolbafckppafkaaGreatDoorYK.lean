/-
  Stable texts joined: Rj.
-/
import Derived.Test.YtolbafckppafkaaGreatDoorYB
import Derived.Test.YtolbafckppafkaaGreatDoorYC
import Derived.BigQuiet
import Derived.Deep.QuietTactic
/-
  PACKAGE ratio: words, Same.
-/
set_option linter.unusedVariables false
set_option linter.unusedSimpArgs false
set_option linter.unnecessarySimpa false
namespace Go.Proofs.YtolbafckppafkaaGreatDoor
open Go.RowKit Pl

theorem kq1 (w : World) (t : TypeId) (cs : Array Value) : ∃ w0, w0 = w.alloc (.cells cs t) ∧ Kp w [(w.heap.size, t, cs)] [] w0 := ⟨_, rfl, (Kp.start w).alloc t _⟩
theorem ret_bool {a b : Bool} (h : a = b) : Ending.returned (.bool a) = .returned (.bool b) := by rw [h]
theorem list_ne_at (l m : List Int) (i : Nat) (hi : i < l.length) (hj : i < m.length) (h : l.getD i 0 ≠ m.getD i 0) : l ≠ m := fun e => h (by rw [e])

set_option maxHeartbeats 800000 in
theorem words_any (A A' : Option Addr) (c c' : Nat) (l m : List Int) (w : World) (h : Rd w A l) (h' : Rd w A' m) :
    Calls Tryz.prog 77 #[.slice A l.length c, .slice A' m.length c'] w fun e w' => e = .returned (.bool (decide (l = m))) ∧ ∃ n, w' = w.drewN n := by
  have hlen := h.len
  have hlen' := h'.len
  by_cases hxy : l.length = m.length
  · have Hxy := Lib.hid hxy
    clear hxy
    go_enter Tryz.func77, Tryz.ntmps77
    rw [Hxy.out]
    go_wp2
    go_loopw [13, 5] (fun i j wr => ∃ k n : Nat, k ≤ l.length ∧ i = .int .i64 k ∧ l.take k = m.take k ∧ wr = w.drewN n) (fun i _ _ => l.length - (intOf i).toNat)
    case atStart => exact ⟨0, 0, Nat.zero_le _, rfl, rfl, rfl⟩
    case round =>
      obtain ⟨k, n, hk, rfl, hd, rfl⟩ := hrel
      have Hd := Lib.hid hd
      clear hd
      by_cases h0 : k < l.length
      · have h1 : k < m.length := by have := Hxy.out; omega
        obtain ⟨ad, rfl, hc1⟩ := h.at_ h0
        obtain ⟨ad', rfl, hc2⟩ := h'.at_ h1
        have L1 := list_ne_at l m k h0 h1
        have L3 : l.getD k 0 = m.getD k 0 → l.take (k + 1) = m.take (k + 1) := fun e => by
          rw [List.take_succ_eq_append_getElem h0, List.take_succ_eq_append_getElem h1, Hd.out]
          congr 2
          simpa [List.getD_eq_getElem?_getD, h0, h1] using e
        generalize l.getD k 0 = p at *
        generalize m.getD k 0 = q at *
        have H1 := Lib.hid L1
        have H3 := Lib.hid L3
        clear L1 L3
        have hky : (k : Int) < (m.length : Int) := by omega
        have hkl : (k : Int) < (l.length : Int) := by omega
        by_cases c1 : p = q
        · have HE := Lib.hid (H3.out c1)
          subst c1
          go_wp2
          go_quiet (fail)
          go_wp2
          go_roundw
          case rel => exact ⟨k + 1, _, by omega, by go_num, HE.out, rfl⟩
          case measure => first | (simp [intOf]; done) | (simp [intOf]; omega)
        · have d1 : (p != q) = true := bne_iff_ne.2 c1
          go_wp2
          go_quiet (fail)
          go_wp2
          go_ret
          exact ⟨ret_bool (by rw [decide_eq_false (H1.out c1)]), drawn2 _ _ _⟩
      · have hkm : ¬ (k : Int) < (m.length : Int) := by have := Hxy.out; omega
        have hE : l = m := by
          have := Hd.out
          rwa [List.take_of_length_le (by omega), List.take_of_length_le (by have := Hxy.out; omega)] at this
        have HE := Lib.hid hE
        clear hE
        go_wp2
        go_ret
        exact ⟨ret_bool (by rw [decide_eq_true HE.out]), n, rfl⟩
  · have b1 : ((l.length : Int) != (m.length : Int)) = true := by simp; omega
    have HN := Lib.hid (show l ≠ m from fun e => hxy (by rw [e]))
    go_enter Tryz.func77, Tryz.ntmps77
    go_wp2
    go_ret
    exact ⟨ret_bool (by rw [decide_eq_false HN.out]), 0, rfl⟩

theorem Same_any (f k : F) (A A' : Option Addr) (c c' : Nat) (C C' : Option Addr) (d d' : Nat) (w : World) (h : Rd w A f.num) (h' : Rd w A' f.den) (k1 : Rd w C k.num) (k2 : Rd w C' k.den) :
    Calls Tryz.prog 50 #[.agg #[.bool f.neg, .slice A f.num.length c, .slice A' f.den.length c'], .agg #[.bool k.neg, .slice C k.num.length d, .slice C' k.den.length d']] w fun e w' =>
      e = .returned (.bool (f.neg == k.neg && decide (f.num = k.num) && decide (f.den = k.den))) ∧ Below w.heap.size w w' := by
  have W1 := Lib.hid (fun (W : World) (hb : Below w.heap.size w W) => words_any A C c d f.num k.num W (h.below hb) (k1.below hb))
  have W2 := Lib.hid (fun (W : World) (hb : Below w.heap.size w W) => words_any A' C' c' d' f.den k.den W (h'.below hb) (k2.below hb))
  obtain ⟨fn, fl, fm⟩ := f
  obtain ⟨kn, kl, km⟩ := k
  simp only at *
  obtain ⟨w0, e0, hK0⟩ := kp2 w 27 27 #[.bool fn, .slice A fl.length c, .slice A' fm.length c'] #[.bool kn, .slice C kl.length d, .slice C' km.length d']
  have HK := Lib.hid hK0
  clear hK0 h h' k1 k2
  generalize decide (fl = kl) = x at *
  generalize decide (fm = km) = y at *
  generalize Value.slice A fl.length c = va at *
  generalize Value.slice A' fm.length c' = vb at *
  generalize Value.slice C kl.length d = vc at *
  generalize Value.slice C' km.length d' = vd at *
  by_cases hs : fn = kn
  · subst hs
    have hs' : (fn == fn) = true := by simp
    rw [hs']
    cases x
    · go_enter Tryz.func50, Tryz.ntmps50
      go_wp2_with fail
      rw [← e0]
      clear e0
      obtain ⟨_, p0, p1, p2, q0, q1, q2⟩ := HK.out.six
      go_wp2_with fail
      refine (W1.out w0 HK.out.low).mono ?_
      rintro e w1 ⟨rfl, n, rfl⟩
      have HK := Lib.hid (HK.out.drewN n)
      go_wp2
      go_ret
      exact ⟨rfl, HK.out.low⟩
    · have HB := Lib.hid HK.out.low
      go_enter Tryz.func50, Tryz.ntmps50
      go_wp2_with fail
      rw [← e0]
      clear e0
      obtain ⟨_, p0, p1, p2, q0, q1, q2⟩ := HK.out.six
      go_wp2_with fail
      refine (W1.out w0 HK.out.low).mono ?_
      rintro e w1 ⟨rfl, n, rfl⟩
      have HK := Lib.hid (HK.out.drewN n)
      go_wp2_with fail
      refine (W2.out _ HK.out.low).mono ?_
      rintro e w1 ⟨rfl, n2, rfl⟩
      go_wp2
      go_ret
      exact ⟨ret_bool (by cases y <;> rfl), below_drewN HB.out _⟩
  · have hs' : (fn == kn) = false := beq_eq_false_iff_ne.2 hs
    rw [hs']
    go_enter Tryz.func50, Tryz.ntmps50
    go_wp2_with fail
    rw [← e0]
    clear e0
    obtain ⟨_, p0, p1, p2, q0, q1, q2⟩ := HK.out.six
    go_wp2
    go_ret
    exact ⟨rfl, HK.out.low⟩

end Go.Proofs.YtolbafckppafkaaGreatDoor
