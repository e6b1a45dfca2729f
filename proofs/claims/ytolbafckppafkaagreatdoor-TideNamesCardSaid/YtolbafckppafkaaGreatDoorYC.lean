/-
  Stable texts joined: Na, Nb, Nc, Nd.
-/
import Derived.Test.YtolbafckppafkaaGreatDoorYB
import Derived.Deep.QuietTactic
import Derived.BigQuiet
import Derived.Maps.AppendAt
import Derived.Deep.AppendLies
/-
  PACKAGE nat, FIRST PART: Check, checked, cut, told, Compare.
-/
set_option linter.unusedVariables false
set_option linter.unusedSimpArgs false
set_option linter.unnecessarySimpa false
namespace Go.Proofs.YtolbafckppafkaaGreatDoor
open Go.RowKit Pl

/-- nat.Check -/
def natChk (l : List Int) : Int := if 8192 < l.length then 3 else if l.getLast? = some 0 then 11 else 0
theorem natChk_ok {l : List Int} (hr : InR l) : natChk l = 0 ↔ l.length ≤ 8192 ∧ Norm l := by
  unfold natChk Norm
  split
  · constructor
    · intro h; omega
    · intro h; omega
  · split
    · rename_i h1 h2; constructor
      · intro h; omega
      · intro h; exact absurd h2 h.2.2
    · rename_i h1 h2; exact ⟨fun _ => ⟨by omega, hr, h2⟩, fun _ => rfl⟩
theorem last_getD {l : List Int} (h : 0 < l.length) : l.getLast? = some (l.getD (l.length - 1) 0) := by
  rw [List.getLast?_eq_getElem?, List.getD_eq_getElem?_getD, List.getElem?_eq_getElem (by omega)]; rfl

set_option maxHeartbeats 400000 in
theorem Check_any (A : Option Addr) (c : Nat) (l : List Int) (w : World) (h : Rd w A l) :
    Calls Tryz.prog 63 #[.slice A l.length c] w fun e w' => e = .returned (.int .i64 (natChk l)) ∧ w = w' := by
  have hlen := h.len
  unfold natChk
  by_cases h1 : 8192 < l.length
  · rw [if_pos h1]
    go_enter Tryz.func63, Tryz.ntmps63
    go_wp2
    go_ret
    exact ⟨rfl, rfl⟩
  · rw [if_neg h1]
    by_cases h2 : 0 < l.length
    · obtain ⟨ad, rfl, hc⟩ := h.at_ (i := l.length - 1) (by omega)
      rw [last_getD h2]
      generalize hx : l.getD (l.length - 1) 0 = x at *
      have e1 : ((l.length : Int) - 1).toNat = l.length - 1 := by omega
      clear hx
      by_cases h3 : x = 0
      · subst h3
        go_enter Tryz.func63, Tryz.ntmps63
        go_wp2
        go_ret
        exact ⟨by simp, rfl⟩
      · rw [if_neg (by simpa using h3)]
        go_enter Tryz.func63, Tryz.ntmps63
        go_wp2
        go_ret
        exact ⟨rfl, rfl⟩
    · have h0 : l = [] := List.eq_nil_of_length_eq_zero (by omega)
      subst h0
      go_enter Tryz.func63, Tryz.ntmps63
      go_wp2
      go_ret
      exact ⟨by simp, rfl⟩

theorem cut_zero (a : List Int) : cut (a ++ [0]) = cut a := by
  induction a with
  | nil => simp [cut]
  | cons x xs ih => simp only [List.cons_append, cut, ih]
theorem cut_last (a : List Int) (x : Int) (h : x ≠ 0) : cut (a ++ [x]) = a ++ [x] := by
  induction a with
  | nil => simp [cut, h]
  | cons y ys ih => simp only [List.cons_append, cut, ih]; rw [if_neg (by simp)]
theorem cut_take_zero (l : List Int) (k : Nat) (hk : k < l.length) (h : l.getD k 0 = 0) : cut (l.take (k + 1)) = cut (l.take k) := by
  rw [List.take_succ_eq_append_getElem hk]
  have e : l[k] = 0 := by rw [List.getD_eq_getElem?_getD, List.getElem?_eq_getElem hk] at h; simpa using h
  rw [e, cut_zero]
theorem cut_take_last (l : List Int) (k : Nat) (hk : k < l.length) (h : l.getD k 0 ≠ 0) : cut (l.take (k + 1)) = l.take (k + 1) := by
  rw [List.take_succ_eq_append_getElem hk]
  have e : l[k] ≠ 0 := by rw [List.getD_eq_getElem?_getD, List.getElem?_eq_getElem hk] at h; simpa using h
  exact cut_last _ _ e

theorem ret_slice {A : Option Addr} {n m c : Nat} (h : n = m) : Ending.returned (.slice A n c) = .returned (.slice A m c) := by rw [h]
set_option maxHeartbeats 400000 in
theorem cut_any (A : Option Addr) (c : Nat) (l : List Int) (w : World) (h : Rd w A l) (hc : l.length ≤ c) :
    Calls Tryz.prog 94 #[.slice A l.length c] w fun e w' => e = .returned (.slice A (cut l).length c) ∧ w = w' := by
  have hlen := h.len
  go_enter Tryz.func94, Tryz.ntmps94
  go_wp2
  go_loop [3] (fun n => ∃ k : Nat, k ≤ l.length ∧ n = .int .i64 k ∧ cut (l.take k) = cut l) (fun n => (intOf n).toNat)
  case atStart => exact ⟨l.length, Nat.le_refl _, rfl, by rw [List.take_length]⟩
  case round =>
    obtain ⟨k, hk, rfl, hcut⟩ := hrel
    have Hcut := Lib.hid hcut
    clear hcut
    rcases Nat.eq_zero_or_pos k with h0 | h0
    · subst h0
      go_wp2
      go_ret
      exact ⟨ret_slice (by rw [← Hcut.out]; simp [cut]), rfl⟩
    · obtain ⟨k, rfl⟩ : ∃ m, k = m + 1 := ⟨k - 1, by omega⟩
      obtain ⟨ad, rfl, hcell⟩ := h.at_ (i := k) (by omega)
      have hz := cut_take_zero l k (by omega)
      have hl := cut_take_last l k (by omega)
      generalize l.getD k 0 = x at *
      have Hz := Lib.hid hz
      have Hl := Lib.hid hl
      clear hz hl
      have e1 : (((k + 1 : Nat) : Int) - 1).toNat = k := by omega
      by_cases h3 : x = 0
      · subst h3
        go_wp2
        go_round
        case rel => exact ⟨k, by omega, by go_num, by rw [← Hcut.out, Hz.out rfl]⟩
        case measure => first | (simp [intOf]; done) | (simp [intOf]; omega)
      · go_wp2
        go_ret
        exact ⟨ret_slice (by rw [← Hcut.out, Hl.out h3, List.length_take]; omega), rfl⟩

theorem cut_take (l : List Int) : cut l = l.take (cut l).length := by
  induction l with
  | nil => rfl
  | cons x xs ih =>
    unfold cut
    simp only
    split
    · rfl
    · rw [List.length_cons, List.take_succ_cons, ← ih]
theorem cut_le (l : List Int) : (cut l).length ≤ l.length := by
  have h := congrArg List.length (cut_take l)
  rw [List.length_take] at h; omega
theorem Rd.cut {w : World} {A : Option Addr} {l : List Int} (h : Rd w A l) : Rd w A (Pl.cut l) := by
  rw [cut_take]; exact h.take _

theorem val_lt_at (l m : List Int) (i : Nat) (hl : InR l) (hi : i < l.length) (hj : i < m.length) (he : l.drop (i + 1) = m.drop (i + 1))
    (h : l.getD i 0 < m.getD i 0) : val l < val m := by
  have h1 := val_take_drop l i (by omega)
  have h2 := val_take_drop m i (by omega)
  rw [drop_val l i hi] at h1
  rw [drop_val m i hj, ← he] at h2
  have h3 := val_lt (hl.take i)
  rw [List.length_take, Nat.min_eq_left (by omega)] at h3
  have h4 := hl.getD i
  have h5 : 4294967296 ^ i * ((l.getD i 0).toNat + 4294967296 * val (l.drop (i + 1)) + 1) ≤ 4294967296 ^ i * ((m.getD i 0).toNat + 4294967296 * val (l.drop (i + 1))) := Nat.mul_le_mul_left _ (by omega)
  rw [Nat.mul_add, Nat.mul_one] at h5
  omega
theorem val_lt_len (l m : List Int) (hl : Norm l) (hm : Norm m) (h : l.length < m.length) : val l < val m := by
  have h1 := hm.len_le (k := m.length - 1)
  have h2 := val_lt hl.1
  have h3 : 4294967296 ^ l.length ≤ 4294967296 ^ (m.length - 1) := Nat.pow_le_pow_right (by omega) (by omega)
  have h4 : ¬ m.length ≤ m.length - 1 := by omega
  rw [h1] at h4
  omega
theorem drawn2 (w : World) (n m : Nat) : ∃ k, (w.drewN n).drewN m = w.drewN k := ⟨n + m, World.drewN_drewN ..⟩
theorem drawn3 (w : World) (n m k : Nat) : ∃ j, ((w.drewN n).drewN m).drewN k = w.drewN j := ⟨n + (m + k), by rw [World.drewN_drewN, World.drewN_drewN]⟩
theorem ret_i64 {a b : Int} (h : a = b) : Ending.returned (.int .i64 a) = .returned (.int .i64 b) := by rw [h]

set_option maxHeartbeats 800000 in
theorem Compare_any (A A' : Option Addr) (c c' : Nat) (l m : List Int) (w : World) (h : Rd w A l) (hc : l.length ≤ c) (h' : Rd w A' m) (hc' : m.length ≤ c') :
    Calls Tryz.prog 65 #[.slice A l.length c, .slice A' m.length c'] w fun e w' => e = .returned (.int .i64 (cmpN (val l) (val m))) ∧ ∃ n, w' = w.drewN n := by
  have hlen := h.cut.len
  have hlen' := h'.cut.len
  have n1 := cut_norm h.inr
  have n2 := cut_norm h'.inr
  have r1 := h.cut
  have r2 := h'.cut
  have C1 := Lib.hid (cut_any A c l w h hc)
  have C2 := Lib.hid (cut_any A' c' m w h' hc')
  rw [← cut_val l, ← cut_val m]
  generalize Pl.cut l = x at *
  generalize Pl.cut m = y at *
  clear h h' hc hc'
  by_cases hxy : x.length = y.length
  · have Hxy := Lib.hid hxy
    clear hxy
    go_enter Tryz.func65, Tryz.ntmps65
    go_wp2_with fail
    refine C1.out.mono ?_
    rintro e w' ⟨rfl, rfl⟩
    go_wp2_with fail
    refine C2.out.mono ?_
    rintro e w' ⟨rfl, rfl⟩
    rw [Hxy.out]
    go_wp2
    have Hlen := hlen
    go_loopw [5] (fun i wr => ∃ k n : Nat, k ≤ x.length ∧ i = .int .i64 ((k : Int) - 1) ∧ x.drop k = y.drop k ∧ wr = w.drewN n) (fun i _ => (intOf i + 1).toNat)
    case atStart => exact ⟨x.length, 0, Nat.le_refl _, by rw [Hxy.out], by rw [List.drop_length, Hxy.out, List.drop_length], rfl⟩
    case round =>
      obtain ⟨k, n, hk, rfl, hd, rfl⟩ := hrel
      have Hd := Lib.hid hd
      clear hd
      rcases Nat.eq_zero_or_pos k with h0 | h0
      · subst h0
        go_wp2
        go_ret
        exact ⟨ret_i64 (by have := Hd.out; simp at this; subst this; simp [cmpN]), n, rfl⟩
      · obtain ⟨k, rfl⟩ : ∃ m, k = m + 1 := ⟨k - 1, by omega⟩
        obtain ⟨ad, rfl, hc1⟩ := r1.at_ (i := k) (by omega)
        obtain ⟨ad', rfl, hc2⟩ := r2.at_ (i := k) (by have := Hxy.out; omega)
        have L1 := val_lt_at x y k n1.1 (by omega) (by have := Hxy.out; omega) Hd.out
        have L2 := val_lt_at y x k n2.1 (by have := Hxy.out; omega) (by omega) Hd.out.symm
        have L3 : x.getD k 0 = y.getD k 0 → x.drop k = y.drop k := fun e => by
          have a1 : k < x.length := by omega
          have a2 : k < y.length := by have := Hxy.out; omega
          rw [List.drop_eq_getElem_cons a1, List.drop_eq_getElem_cons a2, Hd.out]
          congr 1
          simpa [List.getD_eq_getElem?_getD, a1, a2] using e
        generalize x.getD k 0 = p at *
        generalize y.getD k 0 = q at *
        have H1 := Lib.hid L1
        have H2 := Lib.hid L2
        have H3 := Lib.hid L3
        clear L1 L2 L3
        have e1 : (((k + 1 : Nat) : Int) - 1) = (k : Int) := by omega
        rw [e1]
        clear e1
        have hky : (k : Int) < (y.length : Int) := by have := Hxy.out; omega
        by_cases c1 : p < q
        · go_wp2
          go_quiet (fail)
          go_wp2
          go_ret
          exact ⟨ret_i64 (by have := H1.out c1; unfold cmpN; rw [if_pos this]), drawn2 _ _ _⟩
        · have d1 : decide (p < q) = false := by simpa using c1
          by_cases c2 : q < p
          · go_wp2
            go_quiet (fail)
            go_wp2
            go_quiet (fail)
            go_wp2
            go_ret
            exact ⟨ret_i64 (by have := H2.out c2; unfold cmpN; rw [if_neg (by omega), if_pos this]), drawn3 _ _ _ _⟩
          · have d2 : decide (q < p) = false := by simpa using c2
            go_wp2
            go_quiet (fail)
            go_wp2
            go_quiet (fail)
            go_wp2
            go_roundw
            case rel => exact ⟨k, _, by omega, by go_num, H3.out (by omega), rfl⟩
            case measure => first | (simp [intOf]; done) | (simp [intOf]; omega)
  · have b1 : ((x.length : Int) != (y.length : Int)) = true := by simp; omega
    have b2 : (decide ((x.length : Int) = (y.length : Int))) = false := by simp; omega
    by_cases c1 : x.length < y.length
    · have H1 := Lib.hid (val_lt_len x y n1 n2 c1)
      go_enter Tryz.func65, Tryz.ntmps65
      go_wp2_with fail
      refine C1.out.mono ?_
      rintro e w' ⟨rfl, rfl⟩
      go_wp2_with fail
      refine C2.out.mono ?_
      rintro e w' ⟨rfl, rfl⟩
      go_wp2
      go_ret
      exact ⟨ret_i64 (by have := H1.out; unfold cmpN; rw [if_pos this]), 0, rfl⟩
    · have H1 := Lib.hid (val_lt_len y x n2 n1 (by omega))
      have c2 : y.length < x.length := by omega
      go_enter Tryz.func65, Tryz.ntmps65
      go_wp2_with fail
      refine C1.out.mono ?_
      rintro e w' ⟨rfl, rfl⟩
      go_wp2_with fail
      refine C2.out.mono ?_
      rintro e w' ⟨rfl, rfl⟩
      go_wp2
      go_ret
      exact ⟨ret_i64 (by have := H1.out; unfold cmpN; rw [if_neg (by omega), if_pos this]), 0, rfl⟩

set_option maxHeartbeats 400000 in
theorem checked_ok (A A' : Option Addr) (c c' : Nat) (l m : List Int) (w : World) (h : Rd w A l) (h' : Rd w A' m) (hl : Norm l) (hl8 : l.length ≤ 8192) (hm : Norm m) (hm8 : m.length ≤ 8192) :
    Calls Tryz.prog 90 #[.slice A l.length c, .slice A' m.length c'] w fun e w' => e = .returned (.int .i64 0) ∧ w = w' := by
  have C1 := Check_any A c l w h
  have C2 := Check_any A' c' m w h'
  rw [(natChk_ok h.inr).2 ⟨hl8, hl⟩] at C1
  rw [(natChk_ok h'.inr).2 ⟨hm8, hm⟩] at C2
  have H1 := Lib.hid C1
  have H2 := Lib.hid C2
  clear C1 C2
  go_enter Tryz.func90, Tryz.ntmps90
  go_wp2_with fail
  refine H1.out.mono ?_
  rintro e w' ⟨rfl, rfl⟩
  go_wp2_with fail
  refine H2.out.mono ?_
  rintro e w' ⟨rfl, rfl⟩
  go_wp2
  go_ret
  exact ⟨rfl, rfl⟩

set_option maxHeartbeats 400000 in
theorem told_ok (A : Option Addr) (c : Nat) (l : List Int) (w : World) (h : Rd w A l) (hc : l.length ≤ c) (h8 : (cut l).length ≤ 8192) :
    Calls Tryz.prog 103 #[.slice A l.length c] w fun e w' => e = .returned (.tuple #[.slice A (cut l).length c, .int .i64 0]) ∧ w = w' := by
  have H1 := Lib.hid (cut_any A c l w h hc)
  generalize hk : (cut l).length = k at *
  clear hk
  go_enter Tryz.func103, Tryz.ntmps103
  go_wp2_with fail
  refine H1.out.mono ?_
  rintro e w' ⟨rfl, rfl⟩
  go_wp2
  go_ret2
  exact ⟨rfl, rfl⟩
end Go.Proofs.YtolbafckppafkaaGreatDoor

/-
  PACKAGE nat, SECOND PART: make, Add.
-/
set_option linter.unusedVariables false
set_option linter.unusedSimpArgs false
set_option linter.unnecessarySimpa false
namespace Go.Proofs.YtolbafckppafkaaGreatDoor
open Go.RowKit Pl

theorem info_word : (Tryz.prog.info? 43).map (fun i => (i.zero, i.size, i.bytes)) = some (some (.int .u32 0), 1, 4) := by kernel_rfl
theorem make_words (N : Int) (n : Nat) (h : N = n) (hn : n ≤ 1000000) (W : World) :
    (Instr.makeSlice 25 (.int .i64 N) (.int .i64 N)).run Tryz.prog W = .ok (.slice (some ⟨W.heap.size, 0, none⟩) n n) (W.alloc (.cells (cellsOf (List.replicate n 0)) 43)) := by
  subst h
  obtain ⟨i0, hi, hz0, hz1, hz2⟩ := info_parts info_word
  have hr := run_make (P := Tryz.prog) W 25 43 i0 (.int .u32 0) Tryz.underlying25 hi hz0 .i64 .i64 n n (by omega) (by omega) (by rw [hz2]; omega) (by omega)
  rw [hr, Int.toNat_natCast, hz1]
  have e : madeCells (Value.int .u32 0).cells (n * 1) = cellsOf (List.replicate n 0) := by
    apply Array.ext'
    rw [show (Value.int .u32 0).cells = #[Value.int .u32 0] from rfl, toList_madeCells_one]
    simp [cellsOf]
  rw [e]

set_option maxHeartbeats 1000000 in
theorem Add_ge (A A' : Option Addr) (c c' : Nat) (l m : List Int) (w : World) (h : Rd w A l) (h' : Rd w A' m) (hl : Norm l) (hl8 : l.length ≤ 8190) (hm : Norm m) (hle : m.length ≤ l.length) :
    Calls Tryz.prog 149 #[.slice A l.length c, .slice A' m.length c'] w fun e w' =>
      ∃ B d, e = .returned (.tuple #[.slice B (words (val l + val m)).length d, .int .i64 0]) ∧ Ow w' w.heap.size B d (words (val l + val m)) ∧ Below w.heap.size w w' := by
  have C1 := Lib.hid (checked_ok A A' c c' l m w h h' hl (by omega) hm (by omega))
  have hmk := make_words ((l.length : Int) + 1) (l.length + 1) (by omega) (by omega)
  have Hle := hle
  go_enter Tryz.func149, Tryz.ntmps149
  go_wp2_with fail
  refine C1.out.mono ?_
  rintro e w' ⟨rfl, rfl⟩
  go_wp2
  have hB0 : Below w.heap.size w (w.alloc (.cells (cellsOf (List.replicate (l.length + 1) 0)) 43)) := (Below.refl _ _).alloc (Nat.le_refl _) _
  have hK0 : Blk (w.alloc (.cells (cellsOf (List.replicate (l.length + 1) 0)) 43)) w.heap.size 43 (cellsOf (List.replicate (l.length + 1) 0)) := Blk.new _ _ _
  clear hmk
  go_loopw [8, 30] (fun cv i wr => ∃ (k c : Nat) (out : List Int), k ≤ l.length ∧ i = .int .i64 k ∧ cv = .int .u64 c ∧ c ≤ 1 ∧ InR out ∧ l.length + 1 ≤ out.length ∧ out.length ≤ l.length + 1 ∧ Blk wr w.heap.size 43 (cellsOf out) ∧ Below w.heap.size w wr ∧ Hid (val (out.take k) + 4294967296 ^ k * c = val (l.take k) + val (m.take k))) (fun _ i _ => l.length - (intOf i).toNat)
  case atStart => exact ⟨0, 0, List.replicate (l.length + 1) 0, Nat.zero_le _, rfl, rfl, by omega, InR.replicate _ (by omega) (by omega), by simp, by simp, hK0, hB0, by show val _ + _ = _; simp [val]⟩
  case round =>
    obtain ⟨k, cN, out, hk, rfl, rfl, hc1, hro, hlo, hlo', hK, hB, HV⟩ := hrel
    clear hK0 hB0
    by_cases hlt : k < l.length
    · obtain ⟨ad, rfl, hcl⟩ := (h.below hB).at_ hlt
      have hx := h.inr.getD k
      have hy := h'.inr.getD k
      have hg := hK.cell k
      rw [cellsOf_get _ _ (by omega)] at hg
      have hf := hK.frozen k
      have st := add_step l m out k cN (cN + (l.getD k 0).toNat + (m.getD k 0).toNat) (by omega) HV rfl
      have hm0 : ¬ k < m.length → m.getD k 0 = 0 := fun hn => by simp [List.getD_eq_getElem?_getD, Nat.not_lt.1 hn]
      have hcm : k < m.length → ∃ ad', A' = some ad' ∧ wr.cell? (ad'.add k) = some (.int .u32 (m.getD k 0)) := fun hn => (h'.below hB).at_ hn
      generalize l.getD k 0 = x at *
      generalize m.getD k 0 = y at *
      generalize out.getD k 0 = z at *
      have hx0 := hx.1
      have hx1 := hx.2
      have hy0 := hy.1
      have hy1 := hy.2
      have ST := Lib.hid st
      have HH := Lib.hid h'
      have HK := Lib.hid hK
      have HB := Lib.hid hB
      have HR := Lib.hid hro
      clear st hx hy h' hK hB hro h hl hm C1
      by_cases hkm : k < m.length
      · obtain ⟨ad', rfl, hcm⟩ := hcm hkm
        clear hm0
        go_wp2
        go_roundw
        case rel =>
          refine ⟨k + 1, (cN + x.toNat + y.toNat) / 4294967296, out.set k (((cN + x.toNat + y.toNat) % 4294967296 : Nat) : Int), by omega, by go_num, ?_, by omega, HR.out.set _ (by omega) (by omega), by simp; omega, by simp; omega, ?_, HB.out.setCell (Nat.le_refl _) _, ST.out⟩
          · congr 1; omega
          · rw [← cellsOf_set]
            have e : ((cN : Int) + x + y) % 4294967296 = (((cN + x.toNat + y.toNat) % 4294967296 : Nat) : Int) := by omega
            rw [← e]; exact HK.out.set_ k _
        case measure => first | (simp [intOf]; done) | (simp [intOf]; omega)
      · obtain rfl := hm0 hkm
        clear hcm
        go_wp2
        go_roundw
        case rel =>
          refine ⟨k + 1, (cN + x.toNat + (0 : Int).toNat) / 4294967296, out.set k (((cN + x.toNat + (0 : Int).toNat) % 4294967296 : Nat) : Int), by omega, by go_num, ?_, by omega, HR.out.set _ (by omega) (by omega), by simp; omega, by simp; omega, ?_, HB.out.setCell (Nat.le_refl _) _, ST.out⟩
          · congr 1; omega
          · rw [← cellsOf_set]
            have e : ((cN : Int) + x) % 4294967296 = (((cN + x.toNat + (0 : Int).toNat) % 4294967296 : Nat) : Int) := by omega
            rw [← e]; exact HK.out.set_ k _
        case measure => first | (simp [intOf]; done) | (simp [intOf]; omega)
    · obtain rfl : k = l.length := by omega
      have hg := hK.cell l.length
      rw [cellsOf_get _ _ (by omega)] at hg
      have hf := hK.frozen l.length
      generalize out.getD l.length 0 = z at *
      have hv : val (out.set l.length (cN : Int)) = val l + val m := by
        have e1 := take_set_val out l.length (cN : Int) (by omega)
        rw [List.take_of_length_le (by simp; omega)] at e1
        have e2 : val (out.take l.length) + 4294967296 ^ l.length * cN = val (l.take l.length) + val (m.take l.length) := HV
        rw [List.take_length, val_le_of_take m _ hle] at e2
        rw [e1, Int.toNat_natCast, e2]
      have hr2 : InR (out.set l.length (cN : Int)) := hro.set _ (by omega) (by omega)
      have hlen2 : (out.set l.length (cN : Int)).length = l.length + 1 := by simp; omega
      have hK2 : Blk (wr.setCell ⟨w.heap.size, l.length, none⟩ (.int .u32 (cN : Int))) w.heap.size 43 (cellsOf (out.set l.length (cN : Int))) := by
        rw [← cellsOf_set]; exact hK.set_ _ _
      have hO := Ow.of_blk (Nat.le_refl _) hK2 hr2 (by omega)
      have T := told_ok (some ⟨w.heap.size, 0, none⟩) (l.length + 1) _ _ hO.rd (by omega) (by have := cut_le (out.set l.length (cN : Int)); omega)
      have hcw := cut_words hr2
      rw [hv] at hcw
      have hO2 := hO.take (cut (out.set l.length (cN : Int))).length
      rw [← cut_take, hcw] at hO2
      rw [hcw] at T
      rw [hlen2] at T hO2
      have T' := Lib.hid T
      have O' := Lib.hid hO2
      have HB' := Lib.hid (hB.setCell (p := ⟨w.heap.size, l.length, none⟩) (Nat.le_refl _) (.int .u32 (cN : Int)))
      clear T hO2 hO hK2 hlen2 hcw hv hr2 hB hK HV hro h h' hl hm C1
      go_wp2_with fail
      refine T'.out.mono ?_
      rintro e w1 ⟨rfl, rfl⟩
      go_wp2
      go_ret2
      exact ⟨_, _, rfl, O'.out, HB'.out⟩
set_option maxHeartbeats 1000000 in
theorem Add_lt (A A' : Option Addr) (c c' : Nat) (l m : List Int) (w : World) (h : Rd w A l) (h' : Rd w A' m) (hl : Norm l) (hl8 : l.length ≤ 8190) (hm : Norm m) (hlt0 : m.length < l.length) :
    Calls Tryz.prog 149 #[.slice A' m.length c', .slice A l.length c] w fun e w' =>
      ∃ B d, e = .returned (.tuple #[.slice B (words (val l + val m)).length d, .int .i64 0]) ∧ Ow w' w.heap.size B d (words (val l + val m)) ∧ Below w.heap.size w w' := by
  have C1 := Lib.hid (checked_ok A' A c' c m l w h' h hm (by omega) hl (by omega))
  have hmk := make_words ((l.length : Int) + 1) (l.length + 1) (by omega) (by omega)
  have hle : m.length ≤ l.length := by omega
  go_enter Tryz.func149, Tryz.ntmps149
  go_wp2_with fail
  refine C1.out.mono ?_
  rintro e w' ⟨rfl, rfl⟩
  go_wp2
  have hB0 : Below w.heap.size w (w.alloc (.cells (cellsOf (List.replicate (l.length + 1) 0)) 43)) := (Below.refl _ _).alloc (Nat.le_refl _) _
  have hK0 : Blk (w.alloc (.cells (cellsOf (List.replicate (l.length + 1) 0)) 43)) w.heap.size 43 (cellsOf (List.replicate (l.length + 1) 0)) := Blk.new _ _ _
  clear hmk
  go_loopw [8, 30] (fun cv i wr => ∃ (k c : Nat) (out : List Int), k ≤ l.length ∧ i = .int .i64 k ∧ cv = .int .u64 c ∧ c ≤ 1 ∧ InR out ∧ l.length + 1 ≤ out.length ∧ out.length ≤ l.length + 1 ∧ Blk wr w.heap.size 43 (cellsOf out) ∧ Below w.heap.size w wr ∧ Hid (val (out.take k) + 4294967296 ^ k * c = val (l.take k) + val (m.take k))) (fun _ i _ => l.length - (intOf i).toNat)
  case atStart => exact ⟨0, 0, List.replicate (l.length + 1) 0, Nat.zero_le _, rfl, rfl, by omega, InR.replicate _ (by omega) (by omega), by simp, by simp, hK0, hB0, by show val _ + _ = _; simp [val]⟩
  case round =>
    obtain ⟨k, cN, out, hk, rfl, rfl, hc1, hro, hlo, hlo', hK, hB, HV⟩ := hrel
    clear hK0 hB0
    by_cases hlt : k < l.length
    · obtain ⟨ad, rfl, hcl⟩ := (h.below hB).at_ hlt
      have hx := h.inr.getD k
      have hy := h'.inr.getD k
      have hg := hK.cell k
      rw [cellsOf_get _ _ (by omega)] at hg
      have hf := hK.frozen k
      have st := add_step l m out k cN (cN + (l.getD k 0).toNat + (m.getD k 0).toNat) (by omega) HV rfl
      have hm0 : ¬ k < m.length → m.getD k 0 = 0 := fun hn => by simp [List.getD_eq_getElem?_getD, Nat.not_lt.1 hn]
      have hcm : k < m.length → ∃ ad', A' = some ad' ∧ wr.cell? (ad'.add k) = some (.int .u32 (m.getD k 0)) := fun hn => (h'.below hB).at_ hn
      generalize l.getD k 0 = x at *
      generalize m.getD k 0 = y at *
      generalize out.getD k 0 = z at *
      have hx0 := hx.1
      have hx1 := hx.2
      have hy0 := hy.1
      have hy1 := hy.2
      have ST := Lib.hid st
      have HH := Lib.hid h'
      have HK := Lib.hid hK
      have HB := Lib.hid hB
      have HR := Lib.hid hro
      clear st hx hy h' hK hB hro h hl hm C1
      by_cases hkm : k < m.length
      · obtain ⟨ad', rfl, hcm⟩ := hcm hkm
        clear hm0
        go_wp2
        go_roundw
        case rel =>
          refine ⟨k + 1, (cN + x.toNat + y.toNat) / 4294967296, out.set k (((cN + x.toNat + y.toNat) % 4294967296 : Nat) : Int), by omega, by go_num, ?_, by omega, HR.out.set _ (by omega) (by omega), by simp; omega, by simp; omega, ?_, HB.out.setCell (Nat.le_refl _) _, ST.out⟩
          · congr 1; omega
          · rw [← cellsOf_set]
            have e : ((cN : Int) + x + y) % 4294967296 = (((cN + x.toNat + y.toNat) % 4294967296 : Nat) : Int) := by omega
            rw [← e]; exact HK.out.set_ k _
        case measure => first | (simp [intOf]; done) | (simp [intOf]; omega)
      · obtain rfl := hm0 hkm
        clear hcm
        go_wp2
        go_roundw
        case rel =>
          refine ⟨k + 1, (cN + x.toNat + (0 : Int).toNat) / 4294967296, out.set k (((cN + x.toNat + (0 : Int).toNat) % 4294967296 : Nat) : Int), by omega, by go_num, ?_, by omega, HR.out.set _ (by omega) (by omega), by simp; omega, by simp; omega, ?_, HB.out.setCell (Nat.le_refl _) _, ST.out⟩
          · congr 1; omega
          · rw [← cellsOf_set]
            have e : ((cN : Int) + x) % 4294967296 = (((cN + x.toNat + (0 : Int).toNat) % 4294967296 : Nat) : Int) := by omega
            rw [← e]; exact HK.out.set_ k _
        case measure => first | (simp [intOf]; done) | (simp [intOf]; omega)
    · obtain rfl : k = l.length := by omega
      have hg := hK.cell l.length
      rw [cellsOf_get _ _ (by omega)] at hg
      have hf := hK.frozen l.length
      generalize out.getD l.length 0 = z at *
      have hv : val (out.set l.length (cN : Int)) = val l + val m := by
        have e1 := take_set_val out l.length (cN : Int) (by omega)
        rw [List.take_of_length_le (by simp; omega)] at e1
        have e2 : val (out.take l.length) + 4294967296 ^ l.length * cN = val (l.take l.length) + val (m.take l.length) := HV
        rw [List.take_length, val_le_of_take m _ hle] at e2
        rw [e1, Int.toNat_natCast, e2]
      have hr2 : InR (out.set l.length (cN : Int)) := hro.set _ (by omega) (by omega)
      have hlen2 : (out.set l.length (cN : Int)).length = l.length + 1 := by simp; omega
      have hK2 : Blk (wr.setCell ⟨w.heap.size, l.length, none⟩ (.int .u32 (cN : Int))) w.heap.size 43 (cellsOf (out.set l.length (cN : Int))) := by
        rw [← cellsOf_set]; exact hK.set_ _ _
      have hO := Ow.of_blk (Nat.le_refl _) hK2 hr2 (by omega)
      have T := told_ok (some ⟨w.heap.size, 0, none⟩) (l.length + 1) _ _ hO.rd (by omega) (by have := cut_le (out.set l.length (cN : Int)); omega)
      have hcw := cut_words hr2
      rw [hv] at hcw
      have hO2 := hO.take (cut (out.set l.length (cN : Int))).length
      rw [← cut_take, hcw] at hO2
      rw [hcw] at T
      rw [hlen2] at T hO2
      have T' := Lib.hid T
      have O' := Lib.hid hO2
      have HB' := Lib.hid (hB.setCell (p := ⟨w.heap.size, l.length, none⟩) (Nat.le_refl _) (.int .u32 (cN : Int)))
      clear T hO2 hO hK2 hlen2 hcw hv hr2 hB hK HV hro h h' hl hm C1
      go_wp2_with fail
      refine T'.out.mono ?_
      rintro e w1 ⟨rfl, rfl⟩
      go_wp2
      go_ret2
      exact ⟨_, _, rfl, O'.out, HB'.out⟩

theorem Add_any (A A' : Option Addr) (c c' : Nat) (l m : List Int) (w : World) (h : Rd w A l) (h' : Rd w A' m) (hl : Norm l) (hl8 : l.length ≤ 8190) (hm : Norm m) (hm8 : m.length ≤ 8190) :
    Calls Tryz.prog 149 #[.slice A l.length c, .slice A' m.length c'] w fun e w' =>
      ∃ B d, e = .returned (.tuple #[.slice B (words (val l + val m)).length d, .int .i64 0]) ∧ Ow w' w.heap.size B d (words (val l + val m)) ∧ Below w.heap.size w w' := by
  by_cases hle : m.length ≤ l.length
  · exact Add_ge A A' c c' l m w h h' hl hl8 hm hle
  · rw [Nat.add_comm]
    exact Add_lt A' A c' c m l w h' h hm hm8 hl (by omega)
end Go.Proofs.YtolbafckppafkaaGreatDoor

/-
  PACKAGE nat, THIRD PART: small (one-word division in place).
-/
set_option linter.unusedVariables false
set_option linter.unusedSimpArgs false
set_option linter.unnecessarySimpa false
namespace Go.Proofs.YtolbafckppafkaaGreatDoor
open Go.RowKit Pl

theorem ret_2 {a b c d : Value} (h1 : a = b) (h2 : c = d) : Ending.returned (.tuple #[a, c]) = .returned (.tuple #[b, d]) := by rw [h1, h2]
theorem or64 (r : Nat) (x : Int) (hr : r < 4294967296) (h0 : 0 ≤ x) (h1 : x < 4294967296) :
    bits BinOp.or IntKind.u64 ((r : Int) * 4294967296) x = ((r * 4294967296 + x.toNat : Nat) : Int) := by
  obtain ⟨n, rfl⟩ := Int.eq_ofNat_of_zero_le h0
  have h2 : n < 4294967296 := by omega
  have e : ((r : Int) * 4294967296) = ((r * 4294967296 : Nat) : Int) := by omega
  rw [e, u64_or_nat _ _ (by omega) (by omega), nat_join 32 _ _ (by omega) (by simpa using h2)]
  simp
set_option maxHeartbeats 1000000 in
theorem small_any (B c : Nat) (A : Option Addr) (l : List Int) (d : Nat) (w : World) (h : Ow w B A c l) (hd : 0 < d) (hd2 : d < 4294967296) :
    Calls Tryz.prog 104 #[.slice A l.length c, .int .u32 d] w fun e w' =>
      e = .returned (.tuple #[.slice A (words (val l / d)).length c, .int .u32 (val l % d : Nat)]) ∧ Ow w' B A c (words (val l / d)) ∧ w.grownBy w' (A.map (·.block)) := by
  rcases h with ⟨rfl, rfl, rfl⟩ | ⟨g, rfl, hb, hk⟩
  · have z1 : val ([] : List Int) / d = 0 := by simp [val]
    have z2 : val ([] : List Int) % d = 0 := by simp [val]
    rw [z1, z2, words_zero]
    clear z1 z2
    go_enter Tryz.func104, Tryz.ntmps104
    go_wp2
    refine wp_loop_rounds 1 ?_
    rw [rounds_succ]
    go_wp2_with fail
    refine (cut_any none 0 [] w (Rd.nil _ _) (by simp)).mono ?_
    rintro e w1 ⟨rfl, rfl⟩
    go_wp2
    go_ret2
    exact ⟨rfl, Ow.nil _ _, only_refl _ _⟩
  · have hlen := hk.le
    have hmax := hk.max
    go_enter Tryz.func104, Tryz.ntmps104
    go_wp2
    go_loopw [6, 7] (fun rv i wr => ∃ (k r : Nat) (out : List Int), k ≤ l.length ∧ i = .int .i64 ((k : Int) - 1) ∧ rv = .int .u64 r ∧ r < d ∧ out.length ≤ l.length ∧ l.length ≤ out.length ∧ Bw wr g c out ∧ w.grownBy wr (some g) ∧
        Hid (val (out.drop k) * d + r = val (l.drop k) ∧ ∀ j, j < k → out.getD j 0 = l.getD j 0)) (fun _ i _ => (intOf i + 1).toNat)
    case atStart => exact ⟨l.length, 0, l, Nat.le_refl _, rfl, rfl, hd, Nat.le_refl _, Nat.le_refl _, hk, only_refl _ _, by show val _ * d + 0 = _ ∧ _; simp [val]⟩
    case round =>
      obtain ⟨k, r, out, hkl, rfl, rfl, hr, hl1, hl2, hK, hG, HV⟩ := hrel
      rcases Nat.eq_zero_or_pos k with h0 | h0
      · subst h0
        have hv : val out * d + r = val l := HV.out.1
        have hdiv : val l / d = val out := by
          rw [← hv, Nat.mul_comm, Nat.mul_add_div hd, Nat.div_eq_of_lt hr, Nat.add_zero]
        have hmod : val l % d = r := by rw [← hv, Nat.mul_comm, Nat.mul_add_mod, Nat.mod_eq_of_lt hr]
        have T := cut_any (some ⟨g, 0, none⟩) c out wr hK.rd hK.le
        have hcw := cut_words hK.inr
        have hO := hK.take (cut out).length
        rw [← cut_take, hcw, ← hdiv] at hO
        rw [hcw, ← hdiv, show out.length = l.length by omega] at T
        have M' := Lib.hid hmod
        have T' := Lib.hid T
        have O' := Lib.hid hO
        have G' := Lib.hid hG
        have e1 : IntKind.u32.wrap (r : Int) = r := by rw [IntKind.wrap_u32']; omega
        clear T hO hcw hmod hdiv hv HV hK hG hk
        go_wp2_with fail
        refine T'.out.mono ?_
        rintro e w1 ⟨rfl, rfl⟩
        go_wp2
        go_ret2
        exact ⟨ret_2 rfl (by show Value.int .u32 (r : Int) = _; rw [M'.out]), .inr ⟨g, rfl, hb, O'.out⟩, G'.out⟩
      · obtain ⟨k, rfl⟩ : ∃ m, k = m + 1 := ⟨k - 1, by omega⟩
        have e1 : (((k + 1 : Nat) : Int) - 1) = (k : Int) := by omega
        rw [e1]
        clear e1
        have hc := hK.cell (j := k) (by omega)
        have hf := hK.frozen k
        have hx := hK.inr.getD k
        have hx0 := hx.1
        have hx1 := hx.2
        have hxl := HV.out.2 k (by omega)
        have st := small_step l out k d r hd (by omega) (by omega) HV.out.1 hr (by rw [← hxl]; omega)
        rw [← hxl] at st
        have hlt2 := small_lt (x := (out.getD k 0).toNat) hd hr (by omega)
        generalize out.getD k 0 = x at *
        have hor := or64 r x (by omega) hx0 hx1
        generalize r * 4294967296 + x.toNat = s at *
        have q1 : (s : Int) / (d : Int) = ((s / d : Nat) : Int) := rfl
        have q2 : (s : Int) % (d : Int) = ((s % d : Nat) : Int) := rfl
        have q3 := Nat.mod_lt s hd
        generalize s / d = qq at *
        generalize s % d = rr at *
        have ST := Lib.hid st
        have HK := Lib.hid hK
        have HG := Lib.hid hG
        clear st hx hxl hK hG hk
        go_wp2
        go_roundw
        case rel =>
          refine ⟨k, rr, out.set k (qq : Int), by omega, rfl, congrArg (Value.int .u64) q2, q3, by simp; omega, by simp; omega, HK.out.set k (by omega) (by omega), only_setCell HG.out k _, ST.out, fun j hj => ?_⟩
          rw [getD_set_ne _ _ _ _ (by omega)]; exact HV.out.2 j (by omega)
        case measure => first | (simp [intOf]; done) | (simp [intOf]; omega)
end Go.Proofs.YtolbafckppafkaaGreatDoor

/-
  PACKAGE nat, FOURTH PART: Clone, less, Sub.
-/
set_option linter.unusedVariables false
set_option linter.unusedSimpArgs false
set_option linter.unnecessarySimpa false
namespace Go.Proofs.YtolbafckppafkaaGreatDoor
open Go.RowKit Pl

theorem ow_of_owns {w : World} {base n : Nat} {v : Value} {xs : List Value} {l : List Int} (h : w.ownsRow base 43 1 v n xs) (hx : xs = l.map (Value.int .u32)) (hr : InR l) :
    ∃ A c, v = .slice A l.length c ∧ Ow w base A c l := by
  subst hx
  obtain ⟨hlen, h⟩ := h
  have hn : n = l.length := by simpa using hlen.symm
  subst hn
  rcases h with ⟨rfl, h0⟩ | ⟨g, cap, cur, rfl, hb, hh, hc, hm, hs, ht⟩
  · have : l = [] := List.eq_nil_of_length_eq_zero h0
    subst this
    exact ⟨none, 0, rfl, Ow.nil _ _⟩
  · refine ⟨some ⟨g, 0, none⟩, cap, rfl, .inr ⟨g, rfl, hb, cur, hh, by omega, hc, hr, hm, fun j hj => ?_⟩⟩
    have e : (cur.toList.take (l.length * 1))[j]? = (l.map (Value.int .u32))[j]? := by rw [ht]
    rw [List.getElem?_take_of_lt (by omega)] at e
    rw [← Array.getElem?_toList, e]
    simp [hj]
theorem one_words (l : List Int) : ∀ u ∈ l.map (Value.int .u32), u.oneCell' = true := ints_oneCell .u32 l
theorem news_words {w : World} {ad : Addr} {l : List Int} (h : Rd w (some ad) l) : ∀ j u, (l.map (Value.int .u32))[j]? = some u → w.cell? (ad.add j) = some u := by
  intro j u hj
  have hjl : j < l.length := by
    rcases Nat.lt_or_ge j l.length with h | h
    · exact h
    · rw [List.getElem?_eq_none (by simpa using h)] at hj; cases hj
  obtain ⟨ad', e, hc⟩ := h.cells (by omega)
  injection e with e
  subst e
  rw [hc j hjl]
  simpa [hjl, List.getD_eq_getElem?_getD] using hj
set_option maxHeartbeats 400000 in
theorem Clone_any (A : Option Addr) (c : Nat) (l : List Int) (w : World) (h : Rd w A l) (hc : l.length ≤ c) (hs : l.length ≤ 1000000) :
    Calls Tryz.prog 91 #[.slice A l.length c] w fun e w' =>
      ∃ B d, e = .returned (.slice B l.length d) ∧ Ow w' w.heap.size B d l ∧ Below w.heap.size w w' := by
  rcases A with _ | ad
  · have hl : l = [] := by
      cases l with
      | nil => rfl
      | cons x xs => obtain ⟨ad, h, _⟩ := h.cells (by simp); cases h
    subst hl
    have hn : ∀ W : World, (binOp .eql 25 (.slice none 0 c) (.slice none 0 0)).run Tryz.prog W = .ok (.bool true) W := fun W => Lib.run_eql_slice_nil W 25 _ _ _ _ _ _ Tryz.underlying25
    go_enter Tryz.func91, Tryz.ntmps91
    go_wp2
    go_ret
    exact ⟨none, 0, rfl, Ow.nil _ _, Below.refl _ _⟩
  · have hn : ∀ W : World, (binOp .eql 25 (.slice (some ad) l.length c) (.slice none 0 0)).run Tryz.prog W = .ok (.bool false) W := fun W => Lib.run_eql_slice_nil W 25 _ _ _ _ _ _ Tryz.underlying25
    obtain ⟨i0, hi0, hz0, hz1, hz2⟩ := info_parts info_word
    have hA : Below w.heap.size w (w.alloc (.cells #[] 43)) := (Below.refl _ _).alloc (Nat.le_refl _) _
    have h1 := h.below hA
    go_enter Tryz.func91, Tryz.ntmps91
    go_wp2_with (at_builtin; refine wpList_append_own_at _ rfl (.tmp 5) (.tmp 6) 25 rfl w.heap.size 43 i0 _ 1 4 Tryz.underlying25 hi0 hz0 hz1 hz2 rfl (by omega) (.slice (some ⟨w.heap.size, 0, none⟩) 0 0) 0 [] rfl (World.ownsRow_made (size := 1) w #[] 0 (Nat.le_refl _) (Nat.zero_le _) rfl) ad l.length c (l.map (Value.int .u32)) rfl (by simp) (news_words h1) (one_words l) (by simp only [maxLen]; omega) (by omega) hA.size ?_)
    intro v' w1 hown hg _ _
    obtain ⟨B, d, rfl, hO⟩ := ow_of_owns hown (by simp) h.inr
    have HO := Lib.hid hO
    have HB := Lib.hid (hA.grown hg hA.size (fun k hk => by simp [Value.ownBlock] at hk; omega))
    clear hO hg hown h1 hA hn
    go_wp2
    go_ret
    exact ⟨_, _, rfl, HO.out, HB.out⟩

/-- What came in ahead of w's own blocks stands, whatever one of these turns to. -/
theorem Rd.far {w0 w W : World} {A : Option Addr} {m : List Int} {g : Nat} (h : Rd w0 A m) (hb : Below w0.heap.size w0 w) (hg : w0.heap.size ≤ g) (hW : w.grownBy W (some g)) : Rd W A m :=
  h.keep fun p v hc => by
    have hp := World.block_lt_of_cell? w0 p hc
    rw [World.cell?_of_block (hW.block p.block (Nat.lt_of_lt_of_le hp hb.size) (by simp; omega))]
    exact (hb.cell hp).trans hc

theorem wrap_u64' (n : Int) : IntKind.u64.wrap n = n % 18446744073709551616 := by simp [IntKind.wrap, IntKind.bits, IntKind.signed]
theorem borrow_two (x y : Int) (b : Nat) (hx0 : 0 ≤ x) (hx1 : x < 4294967296) (hy0 : 0 ≤ y) (hy1 : y < 4294967296) (hb : b ≤ 1) :
    ∃ d b' : Nat, IntKind.u64.wrap (IntKind.u64.wrap (x - b) - y) % 4294967296 = d ∧ IntKind.u64.wrap (IntKind.u64.wrap (x - b) - y) / 9223372036854775808 = b' ∧
      d < 4294967296 ∧ b' ≤ 1 ∧ d + y.toNat + b = x.toNat + 4294967296 * b' := by
  rw [wrap_u64', wrap_u64']
  by_cases h : 0 ≤ x - b - y
  · exact ⟨(x - b - y).toNat, 0, by omega, by omega, by omega, by omega, by omega⟩
  · exact ⟨(x - b - y + 4294967296).toNat, 1, by omega, by omega, by omega, by omega, by omega⟩
theorem borrow_one (x : Int) (b : Nat) (hx0 : 0 ≤ x) (hx1 : x < 4294967296) (hb : b ≤ 1) :
    ∃ d b' : Nat, IntKind.u64.wrap (x - b) % 4294967296 = d ∧ IntKind.u64.wrap (x - b) / 9223372036854775808 = b' ∧
      d < 4294967296 ∧ b' ≤ 1 ∧ d + (0 : Int).toNat + b = x.toNat + 4294967296 * b' := by
  rw [wrap_u64']
  by_cases h : 0 ≤ x - b
  · exact ⟨(x - b).toNat, 0, by omega, by omega, by omega, by omega, by omega⟩
  · exact ⟨(x - b + 4294967296).toNat, 1, by omega, by omega, by omega, by omega, by omega⟩
/-- one round of a difference -/
theorem less_step (l m out : List Int) (k b d b' : Nat) (hi : k < out.length) (h : val (out.take k) + val (m.take k) = val (l.take k) + 4294967296 ^ k * b)
    (hd : d + (m.getD k 0).toNat + b = (l.getD k 0).toNat + 4294967296 * b') (hm1 : (m.getD k 0).toNat < 4294967296) :
    val ((out.set k (d : Int)).take (k + 1)) + val (m.take (k + 1)) = val (l.take (k + 1)) + 4294967296 ^ (k + 1) * b' := by
  have e := off_step l m out k 1 0 b (m.getD k 0).toNat d b' hi (by rw [Nat.one_mul, Nat.zero_add]; exact h) (by rw [Nat.zero_add, Nat.one_mul, Nat.mod_eq_of_lt hm1]) hd
  simp only [Nat.zero_add, Nat.one_mul, Nat.div_eq_of_lt hm1] at e
  exact e
set_option maxHeartbeats 1000000 in
theorem less_any (B c c' : Nat) (A A' : Option Addr) (l m : List Int) (w : World) (h : Ow w B A c l) (h' : ∀ W, w.grownBy W (A.map (·.block)) → Rd W A' m) (hm : m.length ≤ l.length) (hv : val m ≤ val l) :
    Calls Tryz.prog 169 #[.slice A l.length c, .slice A' m.length c'] w fun e w' =>
      e = .returned (.slice A (words (val l - val m)).length c) ∧ Ow w' B A c (words (val l - val m)) ∧ w.grownBy w' (A.map (·.block)) := by
  rcases h with ⟨rfl, rfl, rfl⟩ | ⟨g, rfl, hb, hk⟩
  · have hm0 : m = [] := List.eq_nil_of_length_eq_zero (by simpa using hm)
    subst hm0
    have z : val ([] : List Int) - val ([] : List Int) = 0 := rfl
    rw [z, words_zero]
    clear z h' hv hm
    go_enter Tryz.func169, Tryz.ntmps169
    go_wp2
    refine wp_loop_rounds 1 ?_
    rw [rounds_succ]
    go_wp2_with fail
    refine (cut_any none 0 [] w (Rd.nil _ _) (by simp)).mono ?_
    rintro e w1 ⟨rfl, rfl⟩
    go_wp2
    go_ret
    exact ⟨rfl, Ow.nil _ _, only_refl _ _⟩
  · have hlen := hk.le
    have hmax := hk.max
    go_enter Tryz.func169, Tryz.ntmps169
    go_wp2
    go_loopw [5, 10] (fun bv i wr => ∃ (k b : Nat) (out : List Int), k ≤ l.length ∧ i = .int .i64 k ∧ bv = .int .u64 b ∧ b ≤ 1 ∧ out.length ≤ l.length ∧ l.length ≤ out.length ∧ Bw wr g c out ∧ w.grownBy wr (some g) ∧
        Hid (val (out.take k) + val (m.take k) = val (l.take k) + 4294967296 ^ k * b ∧ ∀ j, k ≤ j → out.getD j 0 = l.getD j 0)) (fun _ i _ => l.length - (intOf i).toNat)
    case atStart => exact ⟨0, 0, l, Nat.zero_le _, rfl, rfl, by omega, Nat.le_refl _, Nat.le_refl _, hk, only_refl _ _, by show _ + _ = _ + _ ∧ _; simp [val]⟩
    case round =>
      obtain ⟨k, b, out, hkl, rfl, rfl, hb1, hl1, hl2, hK, hG, HV⟩ := hrel
      by_cases hlt : k < l.length
      · have hc := hK.cell (j := k) (by omega)
        have hf := hK.frozen k
        have hx := hK.inr.getD k
        have hx0 := hx.1
        have hx1 := hx.2
        have hxl := HV.out.2 k (by omega)
        have hR := h' wr hG
        have hy := hR.inr.getD k
        have hy0 := hy.1
        have hy1 := hy.2
        have hm0 : ¬ k < m.length → m.getD k 0 = 0 := fun hn => by simp [List.getD_eq_getElem?_getD, Nat.not_lt.1 hn]
        have hcm : k < m.length → ∃ ad', A' = some ad' ∧ wr.cell? (ad'.add k) = some (.int .u32 (m.getD k 0)) := fun hn => hR.at_ hn
        have ST := fun d b' => Lib.hid (less_step l m out k b d b' (by omega) HV.out.1)
        rw [← hxl] at ST
        generalize hxe : out.getD k 0 = x at *
        generalize hye : m.getD k 0 = y at *
        have H' := Lib.hid h'
        have HK := Lib.hid hK
        have HG := Lib.hid hG
        have STH := Lib.hid ST
        clear h' hK hG hk hx hy hR hxl hxe hye ST
        by_cases hkm : k < m.length
        · obtain ⟨ad', rfl, hcm⟩ := hcm hkm
          clear hm0
          obtain ⟨d, b', e1, e2, hd, hb', e3⟩ := borrow_two x y b hx0 hx1 hy0 hy1 hb1
          have E3 := Lib.hid e3
          clear e3
          go_wp2
          go_roundw
          case rel =>
            refine ⟨k + 1, b', out.set k (d : Int), by omega, by go_num, rfl, hb', by simp; omega, by simp; omega, HK.out.set k (by omega) (by omega), only_setCell HG.out k _, (STH.out d b').out E3.out (by omega), fun j hj => ?_⟩
            rw [getD_set_ne _ _ _ _ (by omega)]; exact HV.out.2 j (by omega)
          case measure => first | (simp [intOf]; done) | (simp [intOf]; omega)
        · obtain rfl := hm0 hkm
          clear hcm
          obtain ⟨d, b', e1, e2, hd, hb', e3⟩ := borrow_one x b hx0 hx1 hb1
          have E3 := Lib.hid e3
          clear e3
          go_wp2
          go_roundw
          case rel =>
            refine ⟨k + 1, b', out.set k (d : Int), by omega, by go_num, rfl, hb', by simp; omega, by simp; omega, HK.out.set k (by omega) (by omega), only_setCell HG.out k _, (STH.out d b').out E3.out (by omega), fun j hj => ?_⟩
            rw [getD_set_ne _ _ _ _ (by omega)]; exact HV.out.2 j (by omega)
          case measure => first | (simp [intOf]; done) | (simp [intOf]; omega)
      · have hkk : k = l.length := by omega
        have hvo : val out = val l - val m := by
          have e := HV.out.1
          subst hkk
          rw [List.take_of_length_le (by omega), List.take_of_length_le (by omega), List.take_length] at e
          have h1 := val_lt hK.inr
          have h2 : 4294967296 ^ out.length ≤ 4294967296 ^ l.length := Nat.pow_le_pow_right (by omega) hl1
          rcases Nat.eq_zero_or_pos b with hb0 | hb0
          · subst hb0; omega
          · have : b = 1 := by omega
            subst this; omega
        have T := cut_any (some ⟨g, 0, none⟩) c out wr hK.rd hK.le
        have hcw := cut_words hK.inr
        have hO := hK.take (cut out).length
        rw [← cut_take, hcw, hvo] at hO
        rw [hcw, hvo, show out.length = l.length by omega] at T
        have T' := Lib.hid T
        have O' := Lib.hid hO
        have G' := Lib.hid hG
        have H' := Lib.hid h'
        clear T hO hcw hvo HV hK hG hk hkk h'
        go_wp2_with fail
        refine T'.out.mono ?_
        rintro e w1 ⟨rfl, rfl⟩
        go_wp2
        go_ret
        exact ⟨rfl, .inr ⟨g, rfl, hb, O'.out⟩, G'.out⟩

theorem drewN_size (w : World) (n : Nat) : (w.drewN n).heap.size = w.heap.size := rfl
theorem below_drawn (w : World) (n : Nat) : Below w.heap.size w (w.drewN n) := below_drewN (Below.refl _ _) n
set_option maxHeartbeats 400000 in
theorem Sub_any (A A' : Option Addr) (c c' : Nat) (l m : List Int) (w : World) (h : Rd w A l) (h' : Rd w A' m) (hl : Norm l) (hl8 : l.length ≤ 8192) (hm : Norm m) (hm8 : m.length ≤ 8192) (hc : l.length ≤ c) (hc' : m.length ≤ c') (hv : val m ≤ val l) :
    Calls Tryz.prog 150 #[.slice A l.length c, .slice A' m.length c'] w fun e w' =>
      ∃ B d, e = .returned (.tuple #[.slice B (words (val l - val m)).length d, .int .i64 0]) ∧ Ow w' w.heap.size B d (words (val l - val m)) ∧ Below w.heap.size w w' := by
  have C1 := Lib.hid (checked_ok A A' c c' l m w h h' hl hl8 hm hm8)
  have C2 := Lib.hid (Compare_any A A' c c' l m w h hc h' hc')
  have hmlen : m.length ≤ l.length := by
    have := hm.len_le (k := l.length)
    exact this.2 (Nat.lt_of_le_of_lt hv (val_lt hl.1))
  have K1 : cmpN (val l) (val m) = 0 ∨ cmpN (val l) (val m) = 1 := by
    unfold cmpN; rw [if_neg (by omega)]; split <;> simp
  generalize cmpN (val l) (val m) = q at *
  have hq : 0 ≤ q := by omega
  have hd : decide (q < 0) = false := by simpa using hq
  have HV := Lib.hid hv
  have HL := Lib.hid hmlen
  have HS := Lib.hid hl8
  clear hmlen hv K1 hl hm hl8 hm8
  go_enter Tryz.func150, Tryz.ntmps150
  go_wp2_with fail
  refine C1.out.mono ?_
  rintro e w' ⟨rfl, rfl⟩
  go_wp2_with fail
  refine C2.out.mono ?_
  rintro e w' ⟨rfl, n, rfl⟩
  have hb0 := below_drawn w n
  go_wp2_with fail
  refine (Clone_any A c l _ (h.below hb0) hc (by have := HS.out; omega)).mono ?_
  rintro e w1 ⟨B, d, rfl, hO, hB⟩
  have HO := Lib.hid hO
  have HB := Lib.hid (below_trans hb0 hB)
  clear hO hB
  go_wp2_with fail
  refine (less_any w.heap.size d c' B A' l m w1 HO.out ?_ HL.out HV.out).mono ?_
  · intro W hW
    rcases HO.out with ⟨rfl, rfl, rfl⟩ | ⟨g, rfl, hg, hk⟩
    · have : m = [] := List.eq_nil_of_length_eq_zero (by have := HL.out; simpa using this)
      subst this; exact Rd.nil _ _
    · exact h'.far HB.out hg hW
  rintro e w2 ⟨rfl, hO2, hG2⟩
  have HO2 := Lib.hid hO2
  have HG2 := Lib.hid hG2
  clear hO2 hG2
  go_wp2
  go_ret2
  refine ⟨_, _, rfl, HO2.out, ?_⟩
  exact HB.out.trans (HO.out.only HG2.out HB.out.size)
end Go.Proofs.YtolbafckppafkaaGreatDoor
