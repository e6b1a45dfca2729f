/-
  PACKAGE nat, FIRST PART: Check, checked, cut, told, Compare.
-/
import Derived.Test.YtbjclfmplndkcaaGreatDoorRd
import Derived.Deep.QuietTactic
import Derived.BigQuiet
set_option linter.unusedVariables false
set_option linter.unusedSimpArgs false
set_option linter.unnecessarySimpa false
namespace Go.Proofs.YtbjclfmplndkcaaGreatDoor
open Go.RowKit Pl

/-- nat.Check -/
def natChk (l : List Int) : Int := if 8192 < l.length then 3 else if l.getLast? = some 0 then 11 else 0
theorem natChk_ok {l : List Int} (hr : InR l) : natChk l = 0 ↔ l.length ≤ 8192 ∧ Norm l := by
  unfold natChk Norm
  split
  · constructor
    · intro h; omega
    · intro h; omega
  · split
    · rename_i h1 h2; constructor
      · intro h; omega
      · intro h; exact absurd h2 h.2.2
    · rename_i h1 h2; exact ⟨fun _ => ⟨by omega, hr, h2⟩, fun _ => rfl⟩
theorem last_getD {l : List Int} (h : 0 < l.length) : l.getLast? = some (l.getD (l.length - 1) 0) := by
  rw [List.getLast?_eq_getElem?, List.getD_eq_getElem?_getD, List.getElem?_eq_getElem (by omega)]; rfl

set_option maxHeartbeats 400000 in
theorem Check_any (A : Option Addr) (c : Nat) (l : List Int) (w : World) (h : Rd w A l) :
    Calls Tryz.prog 24 #[.slice A l.length c] w fun e w' => e = .returned (.int .i64 (natChk l)) ∧ w = w' := by
  have hlen := h.len
  unfold natChk
  by_cases h1 : 8192 < l.length
  · rw [if_pos h1]
    go_enter Tryz.func24, Tryz.ntmps24
    go_wp2
    go_ret
    exact ⟨rfl, rfl⟩
  · rw [if_neg h1]
    by_cases h2 : 0 < l.length
    · obtain ⟨ad, rfl, hc⟩ := h.at_ (i := l.length - 1) (by omega)
      rw [last_getD h2]
      generalize hx : l.getD (l.length - 1) 0 = x at *
      have e1 : ((l.length : Int) - 1).toNat = l.length - 1 := by omega
      clear hx
      by_cases h3 : x = 0
      · subst h3
        go_enter Tryz.func24, Tryz.ntmps24
        go_wp2
        go_ret
        exact ⟨by simp, rfl⟩
      · rw [if_neg (by simpa using h3)]
        go_enter Tryz.func24, Tryz.ntmps24
        go_wp2
        go_ret
        exact ⟨rfl, rfl⟩
    · have h0 : l = [] := List.eq_nil_of_length_eq_zero (by omega)
      subst h0
      go_enter Tryz.func24, Tryz.ntmps24
      go_wp2
      go_ret
      exact ⟨by simp, rfl⟩

theorem cut_zero (a : List Int) : cut (a ++ [0]) = cut a := by
  induction a with
  | nil => simp [cut]
  | cons x xs ih => simp only [List.cons_append, cut, ih]
theorem cut_last (a : List Int) (x : Int) (h : x ≠ 0) : cut (a ++ [x]) = a ++ [x] := by
  induction a with
  | nil => simp [cut, h]
  | cons y ys ih => simp only [List.cons_append, cut, ih]; rw [if_neg (by simp)]
theorem cut_take_zero (l : List Int) (k : Nat) (hk : k < l.length) (h : l.getD k 0 = 0) : cut (l.take (k + 1)) = cut (l.take k) := by
  rw [List.take_succ_eq_append_getElem hk]
  have e : l[k] = 0 := by rw [List.getD_eq_getElem?_getD, List.getElem?_eq_getElem hk] at h; simpa using h
  rw [e, cut_zero]
theorem cut_take_last (l : List Int) (k : Nat) (hk : k < l.length) (h : l.getD k 0 ≠ 0) : cut (l.take (k + 1)) = l.take (k + 1) := by
  rw [List.take_succ_eq_append_getElem hk]
  have e : l[k] ≠ 0 := by rw [List.getD_eq_getElem?_getD, List.getElem?_eq_getElem hk] at h; simpa using h
  exact cut_last _ _ e

theorem ret_slice {A : Option Addr} {n m c : Nat} (h : n = m) : Ending.returned (.slice A n c) = .returned (.slice A m c) := by rw [h]
set_option maxHeartbeats 400000 in
theorem cut_any (A : Option Addr) (c : Nat) (l : List Int) (w : World) (h : Rd w A l) (hc : l.length ≤ c) :
    Calls Tryz.prog 39 #[.slice A l.length c] w fun e w' => e = .returned (.slice A (cut l).length c) ∧ w = w' := by
  have hlen := h.len
  go_enter Tryz.func39, Tryz.ntmps39
  go_wp2
  go_loop [3] (fun n => ∃ k : Nat, k ≤ l.length ∧ n = .int .i64 k ∧ cut (l.take k) = cut l) (fun n => (intOf n).toNat)
  case atStart => exact ⟨l.length, Nat.le_refl _, rfl, by rw [List.take_length]⟩
  case round =>
    obtain ⟨k, hk, rfl, hcut⟩ := hrel
    have Hcut := Lib.hid hcut
    clear hcut
    rcases Nat.eq_zero_or_pos k with h0 | h0
    · subst h0
      go_wp2
      go_ret
      exact ⟨ret_slice (by rw [← Hcut.out]; simp [cut]), rfl⟩
    · obtain ⟨k, rfl⟩ : ∃ m, k = m + 1 := ⟨k - 1, by omega⟩
      obtain ⟨ad, rfl, hcell⟩ := h.at_ (i := k) (by omega)
      have hz := cut_take_zero l k (by omega)
      have hl := cut_take_last l k (by omega)
      generalize l.getD k 0 = x at *
      have Hz := Lib.hid hz
      have Hl := Lib.hid hl
      clear hz hl
      have e1 : (((k + 1 : Nat) : Int) - 1).toNat = k := by omega
      by_cases h3 : x = 0
      · subst h3
        go_wp2
        go_round
        case rel => exact ⟨k, by omega, by go_num, by rw [← Hcut.out, Hz.out rfl]⟩
        case measure => first | (simp [intOf]; done) | (simp [intOf]; omega)
      · go_wp2
        go_ret
        exact ⟨ret_slice (by rw [← Hcut.out, Hl.out h3, List.length_take]; omega), rfl⟩

theorem cut_take (l : List Int) : cut l = l.take (cut l).length := by
  induction l with
  | nil => rfl
  | cons x xs ih =>
    unfold cut
    simp only
    split
    · rfl
    · rw [List.length_cons, List.take_succ_cons, ← ih]
theorem cut_le (l : List Int) : (cut l).length ≤ l.length := by
  have h := congrArg List.length (cut_take l)
  rw [List.length_take] at h; omega
theorem Rd.cut {w : World} {A : Option Addr} {l : List Int} (h : Rd w A l) : Rd w A (Pl.cut l) := by
  rw [cut_take]; exact h.take _

theorem val_lt_at (l m : List Int) (i : Nat) (hl : InR l) (hi : i < l.length) (hj : i < m.length) (he : l.drop (i + 1) = m.drop (i + 1))
    (h : l.getD i 0 < m.getD i 0) : val l < val m := by
  have h1 := val_take_drop l i (by omega)
  have h2 := val_take_drop m i (by omega)
  rw [drop_val l i hi] at h1
  rw [drop_val m i hj, ← he] at h2
  have h3 := val_lt (hl.take i)
  rw [List.length_take, Nat.min_eq_left (by omega)] at h3
  have h4 := hl.getD i
  have h5 : 4294967296 ^ i * ((l.getD i 0).toNat + 4294967296 * val (l.drop (i + 1)) + 1) ≤ 4294967296 ^ i * ((m.getD i 0).toNat + 4294967296 * val (l.drop (i + 1))) := Nat.mul_le_mul_left _ (by omega)
  rw [Nat.mul_add, Nat.mul_one] at h5
  omega
theorem val_lt_len (l m : List Int) (hl : Norm l) (hm : Norm m) (h : l.length < m.length) : val l < val m := by
  have h1 := hm.len_le (k := m.length - 1)
  have h2 := val_lt hl.1
  have h3 : 4294967296 ^ l.length ≤ 4294967296 ^ (m.length - 1) := Nat.pow_le_pow_right (by omega) (by omega)
  have h4 : ¬ m.length ≤ m.length - 1 := by omega
  rw [h1] at h4
  omega
theorem drawn2 (w : World) (n m : Nat) : ∃ k, (w.drewN n).drewN m = w.drewN k := ⟨n + m, World.drewN_drewN ..⟩
theorem drawn3 (w : World) (n m k : Nat) : ∃ j, ((w.drewN n).drewN m).drewN k = w.drewN j := ⟨n + (m + k), by rw [World.drewN_drewN, World.drewN_drewN]⟩
theorem ret_i64 {a b : Int} (h : a = b) : Ending.returned (.int .i64 a) = .returned (.int .i64 b) := by rw [h]

set_option maxHeartbeats 800000 in
theorem Compare_any (A A' : Option Addr) (c c' : Nat) (l m : List Int) (w : World) (h : Rd w A l) (hc : l.length ≤ c) (h' : Rd w A' m) (hc' : m.length ≤ c') :
    Calls Tryz.prog 22 #[.slice A l.length c, .slice A' m.length c'] w fun e w' => e = .returned (.int .i64 (cmpN (val l) (val m))) ∧ ∃ n, w' = w.drewN n := by
  have hlen := h.cut.len
  have hlen' := h'.cut.len
  have n1 := cut_norm h.inr
  have n2 := cut_norm h'.inr
  have r1 := h.cut
  have r2 := h'.cut
  have C1 := Lib.hid (cut_any A c l w h hc)
  have C2 := Lib.hid (cut_any A' c' m w h' hc')
  rw [← cut_val l, ← cut_val m]
  generalize Pl.cut l = x at *
  generalize Pl.cut m = y at *
  clear h h' hc hc'
  by_cases hxy : x.length = y.length
  · have Hxy := Lib.hid hxy
    clear hxy
    go_enter Tryz.func22, Tryz.ntmps22
    go_wp2_with fail
    refine C1.out.mono ?_
    rintro e w' ⟨rfl, rfl⟩
    go_wp2_with fail
    refine C2.out.mono ?_
    rintro e w' ⟨rfl, rfl⟩
    rw [Hxy.out]
    go_wp2
    have Hlen := hlen
    go_loopw [5] (fun i wr => ∃ k n : Nat, k ≤ x.length ∧ i = .int .i64 ((k : Int) - 1) ∧ x.drop k = y.drop k ∧ wr = w.drewN n) (fun i _ => (intOf i + 1).toNat)
    case atStart => exact ⟨x.length, 0, Nat.le_refl _, by rw [Hxy.out], by rw [List.drop_length, Hxy.out, List.drop_length], rfl⟩
    case round =>
      obtain ⟨k, n, hk, rfl, hd, rfl⟩ := hrel
      have Hd := Lib.hid hd
      clear hd
      rcases Nat.eq_zero_or_pos k with h0 | h0
      · subst h0
        go_wp2
        go_ret
        exact ⟨ret_i64 (by have := Hd.out; simp at this; subst this; simp [cmpN]), n, rfl⟩
      · obtain ⟨k, rfl⟩ : ∃ m, k = m + 1 := ⟨k - 1, by omega⟩
        obtain ⟨ad, rfl, hc1⟩ := r1.at_ (i := k) (by omega)
        obtain ⟨ad', rfl, hc2⟩ := r2.at_ (i := k) (by have := Hxy.out; omega)
        have L1 := val_lt_at x y k n1.1 (by omega) (by have := Hxy.out; omega) Hd.out
        have L2 := val_lt_at y x k n2.1 (by have := Hxy.out; omega) (by omega) Hd.out.symm
        have L3 : x.getD k 0 = y.getD k 0 → x.drop k = y.drop k := fun e => by
          have a1 : k < x.length := by omega
          have a2 : k < y.length := by have := Hxy.out; omega
          rw [List.drop_eq_getElem_cons a1, List.drop_eq_getElem_cons a2, Hd.out]
          congr 1
          simpa [List.getD_eq_getElem?_getD, a1, a2] using e
        generalize x.getD k 0 = p at *
        generalize y.getD k 0 = q at *
        have H1 := Lib.hid L1
        have H2 := Lib.hid L2
        have H3 := Lib.hid L3
        clear L1 L2 L3
        have e1 : (((k + 1 : Nat) : Int) - 1) = (k : Int) := by omega
        rw [e1]
        clear e1
        have hky : (k : Int) < (y.length : Int) := by have := Hxy.out; omega
        by_cases c1 : p < q
        · go_wp2
          go_quiet (fail)
          go_wp2
          go_ret
          exact ⟨ret_i64 (by have := H1.out c1; unfold cmpN; rw [if_pos this]), drawn2 _ _ _⟩
        · have d1 : decide (p < q) = false := by simpa using c1
          by_cases c2 : q < p
          · go_wp2
            go_quiet (fail)
            go_wp2
            go_quiet (fail)
            go_wp2
            go_ret
            exact ⟨ret_i64 (by have := H2.out c2; unfold cmpN; rw [if_neg (by omega), if_pos this]), drawn3 _ _ _ _⟩
          · have d2 : decide (q < p) = false := by simpa using c2
            go_wp2
            go_quiet (fail)
            go_wp2
            go_quiet (fail)
            go_wp2
            go_roundw
            case rel => exact ⟨k, _, by omega, by go_num, H3.out (by omega), rfl⟩
            case measure => first | (simp [intOf]; done) | (simp [intOf]; omega)
  · have b1 : ((x.length : Int) != (y.length : Int)) = true := by simp; omega
    have b2 : (decide ((x.length : Int) = (y.length : Int))) = false := by simp; omega
    by_cases c1 : x.length < y.length
    · have H1 := Lib.hid (val_lt_len x y n1 n2 c1)
      go_enter Tryz.func22, Tryz.ntmps22
      go_wp2_with fail
      refine C1.out.mono ?_
      rintro e w' ⟨rfl, rfl⟩
      go_wp2_with fail
      refine C2.out.mono ?_
      rintro e w' ⟨rfl, rfl⟩
      go_wp2
      go_ret
      exact ⟨ret_i64 (by have := H1.out; unfold cmpN; rw [if_pos this]), 0, rfl⟩
    · have H1 := Lib.hid (val_lt_len y x n2 n1 (by omega))
      have c2 : y.length < x.length := by omega
      go_enter Tryz.func22, Tryz.ntmps22
      go_wp2_with fail
      refine C1.out.mono ?_
      rintro e w' ⟨rfl, rfl⟩
      go_wp2_with fail
      refine C2.out.mono ?_
      rintro e w' ⟨rfl, rfl⟩
      go_wp2
      go_ret
      exact ⟨ret_i64 (by have := H1.out; unfold cmpN; rw [if_neg (by omega), if_pos this]), 0, rfl⟩

set_option maxHeartbeats 400000 in
theorem checked_ok (A A' : Option Addr) (c c' : Nat) (l m : List Int) (w : World) (h : Rd w A l) (h' : Rd w A' m) (hl : Norm l) (hl8 : l.length ≤ 8192) (hm : Norm m) (hm8 : m.length ≤ 8192) :
    Calls Tryz.prog 40 #[.slice A l.length c, .slice A' m.length c'] w fun e w' => e = .returned (.int .i64 0) ∧ w = w' := by
  have C1 := Check_any A c l w h
  have C2 := Check_any A' c' m w h'
  rw [(natChk_ok h.inr).2 ⟨hl8, hl⟩] at C1
  rw [(natChk_ok h'.inr).2 ⟨hm8, hm⟩] at C2
  have H1 := Lib.hid C1
  have H2 := Lib.hid C2
  clear C1 C2
  go_enter Tryz.func40, Tryz.ntmps40
  go_wp2_with fail
  refine H1.out.mono ?_
  rintro e w' ⟨rfl, rfl⟩
  go_wp2_with fail
  refine H2.out.mono ?_
  rintro e w' ⟨rfl, rfl⟩
  go_wp2
  go_ret
  exact ⟨rfl, rfl⟩

set_option maxHeartbeats 400000 in
theorem told_ok (A : Option Addr) (c : Nat) (l : List Int) (w : World) (h : Rd w A l) (hc : l.length ≤ c) (h8 : (cut l).length ≤ 8192) :
    Calls Tryz.prog 46 #[.slice A l.length c] w fun e w' => e = .returned (.tuple #[.slice A (cut l).length c, .int .i64 0]) ∧ w = w' := by
  have H1 := Lib.hid (cut_any A c l w h hc)
  generalize hk : (cut l).length = k at *
  clear hk
  go_enter Tryz.func46, Tryz.ntmps46
  go_wp2_with fail
  refine H1.out.mono ?_
  rintro e w' ⟨rfl, rfl⟩
  go_wp2
  go_ret2
  exact ⟨rfl, rfl⟩
end Go.Proofs.YtbjclfmplndkcaaGreatDoor
