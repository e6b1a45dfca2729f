/-
  PACKAGE nat, SECOND PART: make, Add.
-/
import Derived.Test.YtbjclfmplndkcaaGreatDoorNa
set_option linter.unusedVariables false
set_option linter.unusedSimpArgs false
set_option linter.unnecessarySimpa false
namespace Go.Proofs.YtbjclfmplndkcaaGreatDoor
open Go.RowKit Pl

theorem info_word : (Tryz.prog.info? 40).map (fun i => (i.zero, i.size, i.bytes)) = some (some (.int .u32 0), 1, 4) := by kernel_rfl
theorem make_words (N : Int) (n : Nat) (h : N = n) (hn : n ≤ 1000000) (W : World) :
    (Instr.makeSlice 22 (.int .i64 N) (.int .i64 N)).run Tryz.prog W = .ok (.slice (some ⟨W.heap.size, 0, none⟩) n n) (W.alloc (.cells (cellsOf (List.replicate n 0)) 40)) := by
  subst h
  obtain ⟨i0, hi, hz0, hz1, hz2⟩ := info_parts info_word
  have hr := run_make (P := Tryz.prog) W 22 40 i0 (.int .u32 0) Tryz.underlying22 hi hz0 .i64 .i64 n n (by omega) (by omega) (by rw [hz2]; omega) (by omega)
  rw [hr, Int.toNat_natCast, hz1]
  have e : madeCells (Value.int .u32 0).cells (n * 1) = cellsOf (List.replicate n 0) := by
    apply Array.ext'
    rw [show (Value.int .u32 0).cells = #[Value.int .u32 0] from rfl, toList_madeCells_one]
    simp [cellsOf]
  rw [e]

set_option maxHeartbeats 1000000 in
theorem Add_ge (A A' : Option Addr) (c c' : Nat) (l m : List Int) (w : World) (h : Rd w A l) (h' : Rd w A' m) (hl : Norm l) (hl8 : l.length ≤ 8190) (hm : Norm m) (hle : m.length ≤ l.length) :
    Calls Tryz.prog 30 #[.slice A l.length c, .slice A' m.length c'] w fun e w' =>
      ∃ B d, e = .returned (.tuple #[.slice B (words (val l + val m)).length d, .int .i64 0]) ∧ Ow w' w.heap.size B d (words (val l + val m)) ∧ Below w.heap.size w w' := by
  have C1 := Lib.hid (checked_ok A A' c c' l m w h h' hl (by omega) hm (by omega))
  have hmk := make_words ((l.length : Int) + 1) (l.length + 1) (by omega) (by omega)
  have Hle := hle
  go_enter Tryz.func30, Tryz.ntmps30
  go_wp2_with fail
  refine C1.out.mono ?_
  rintro e w' ⟨rfl, rfl⟩
  go_wp2
  have hB0 : Below w.heap.size w (w.alloc (.cells (cellsOf (List.replicate (l.length + 1) 0)) 40)) := (Below.refl _ _).alloc (Nat.le_refl _) _
  have hK0 : Blk (w.alloc (.cells (cellsOf (List.replicate (l.length + 1) 0)) 40)) w.heap.size 40 (cellsOf (List.replicate (l.length + 1) 0)) := Blk.new _ _ _
  clear hmk
  go_loopw [8, 30] (fun cv i wr => ∃ (k c : Nat) (out : List Int), k ≤ l.length ∧ i = .int .i64 k ∧ cv = .int .u64 c ∧ c ≤ 1 ∧ InR out ∧ l.length + 1 ≤ out.length ∧ out.length ≤ l.length + 1 ∧ Blk wr w.heap.size 40 (cellsOf out) ∧ Below w.heap.size w wr ∧ Hid (val (out.take k) + 4294967296 ^ k * c = val (l.take k) + val (m.take k))) (fun _ i _ => l.length - (intOf i).toNat)
  case atStart => exact ⟨0, 0, List.replicate (l.length + 1) 0, Nat.zero_le _, rfl, rfl, by omega, InR.replicate _ (by omega) (by omega), by simp, by simp, hK0, hB0, by show val _ + _ = _; simp [val]⟩
  case round =>
    obtain ⟨k, cN, out, hk, rfl, rfl, hc1, hro, hlo, hlo', hK, hB, HV⟩ := hrel
    clear hK0 hB0
    by_cases hlt : k < l.length
    · obtain ⟨ad, rfl, hcl⟩ := (h.below hB).at_ hlt
      have hx := h.inr.getD k
      have hy := h'.inr.getD k
      have hg := hK.cell k
      rw [cellsOf_get _ _ (by omega)] at hg
      have hf := hK.frozen k
      have st := add_step l m out k cN (cN + (l.getD k 0).toNat + (m.getD k 0).toNat) (by omega) HV rfl
      have hm0 : ¬ k < m.length → m.getD k 0 = 0 := fun hn => by simp [List.getD_eq_getElem?_getD, Nat.not_lt.1 hn]
      have hcm : k < m.length → ∃ ad', A' = some ad' ∧ wr.cell? (ad'.add k) = some (.int .u32 (m.getD k 0)) := fun hn => (h'.below hB).at_ hn
      generalize l.getD k 0 = x at *
      generalize m.getD k 0 = y at *
      generalize out.getD k 0 = z at *
      have hx0 := hx.1
      have hx1 := hx.2
      have hy0 := hy.1
      have hy1 := hy.2
      have ST := Lib.hid st
      have HH := Lib.hid h'
      have HK := Lib.hid hK
      have HB := Lib.hid hB
      have HR := Lib.hid hro
      clear st hx hy h' hK hB hro h hl hm C1
      by_cases hkm : k < m.length
      · obtain ⟨ad', rfl, hcm⟩ := hcm hkm
        clear hm0
        go_wp2
        go_roundw
        case rel =>
          refine ⟨k + 1, (cN + x.toNat + y.toNat) / 4294967296, out.set k (((cN + x.toNat + y.toNat) % 4294967296 : Nat) : Int), by omega, by go_num, ?_, by omega, HR.out.set _ (by omega) (by omega), by simp; omega, by simp; omega, ?_, HB.out.setCell (Nat.le_refl _) _, ST.out⟩
          · congr 1; omega
          · rw [← cellsOf_set]
            have e : ((cN : Int) + x + y) % 4294967296 = (((cN + x.toNat + y.toNat) % 4294967296 : Nat) : Int) := by omega
            rw [← e]; exact HK.out.set_ k _
        case measure => first | (simp [intOf]; done) | (simp [intOf]; omega)
      · obtain rfl := hm0 hkm
        clear hcm
        go_wp2
        go_roundw
        case rel =>
          refine ⟨k + 1, (cN + x.toNat + (0 : Int).toNat) / 4294967296, out.set k (((cN + x.toNat + (0 : Int).toNat) % 4294967296 : Nat) : Int), by omega, by go_num, ?_, by omega, HR.out.set _ (by omega) (by omega), by simp; omega, by simp; omega, ?_, HB.out.setCell (Nat.le_refl _) _, ST.out⟩
          · congr 1; omega
          · rw [← cellsOf_set]
            have e : ((cN : Int) + x) % 4294967296 = (((cN + x.toNat + (0 : Int).toNat) % 4294967296 : Nat) : Int) := by omega
            rw [← e]; exact HK.out.set_ k _
        case measure => first | (simp [intOf]; done) | (simp [intOf]; omega)
    · obtain rfl : k = l.length := by omega
      have hg := hK.cell l.length
      rw [cellsOf_get _ _ (by omega)] at hg
      have hf := hK.frozen l.length
      generalize out.getD l.length 0 = z at *
      have hv : val (out.set l.length (cN : Int)) = val l + val m := by
        have e1 := take_set_val out l.length (cN : Int) (by omega)
        rw [List.take_of_length_le (by simp; omega)] at e1
        have e2 : val (out.take l.length) + 4294967296 ^ l.length * cN = val (l.take l.length) + val (m.take l.length) := HV
        rw [List.take_length, val_le_of_take m _ hle] at e2
        rw [e1, Int.toNat_natCast, e2]
      have hr2 : InR (out.set l.length (cN : Int)) := hro.set _ (by omega) (by omega)
      have hlen2 : (out.set l.length (cN : Int)).length = l.length + 1 := by simp; omega
      have hK2 : Blk (wr.setCell ⟨w.heap.size, l.length, none⟩ (.int .u32 (cN : Int))) w.heap.size 40 (cellsOf (out.set l.length (cN : Int))) := by
        rw [← cellsOf_set]; exact hK.set_ _ _
      have hO := Ow.of_blk (Nat.le_refl _) hK2 hr2 (by omega)
      have T := told_ok (some ⟨w.heap.size, 0, none⟩) (l.length + 1) _ _ hO.rd (by omega) (by have := cut_le (out.set l.length (cN : Int)); omega)
      have hcw := cut_words hr2
      rw [hv] at hcw
      have hO2 := hO.take (cut (out.set l.length (cN : Int))).length
      rw [← cut_take, hcw] at hO2
      rw [hcw] at T
      rw [hlen2] at T hO2
      have T' := Lib.hid T
      have O' := Lib.hid hO2
      have HB' := Lib.hid (hB.setCell (p := ⟨w.heap.size, l.length, none⟩) (Nat.le_refl _) (.int .u32 (cN : Int)))
      clear T hO2 hO hK2 hlen2 hcw hv hr2 hB hK HV hro h h' hl hm C1
      go_wp2_with fail
      refine T'.out.mono ?_
      rintro e w1 ⟨rfl, rfl⟩
      go_wp2
      go_ret2
      exact ⟨_, _, rfl, O'.out, HB'.out⟩
set_option maxHeartbeats 1000000 in
theorem Add_lt (A A' : Option Addr) (c c' : Nat) (l m : List Int) (w : World) (h : Rd w A l) (h' : Rd w A' m) (hl : Norm l) (hl8 : l.length ≤ 8190) (hm : Norm m) (hlt0 : m.length < l.length) :
    Calls Tryz.prog 30 #[.slice A' m.length c', .slice A l.length c] w fun e w' =>
      ∃ B d, e = .returned (.tuple #[.slice B (words (val l + val m)).length d, .int .i64 0]) ∧ Ow w' w.heap.size B d (words (val l + val m)) ∧ Below w.heap.size w w' := by
  have C1 := Lib.hid (checked_ok A' A c' c m l w h' h hm (by omega) hl (by omega))
  have hmk := make_words ((l.length : Int) + 1) (l.length + 1) (by omega) (by omega)
  have hle : m.length ≤ l.length := by omega
  go_enter Tryz.func30, Tryz.ntmps30
  go_wp2_with fail
  refine C1.out.mono ?_
  rintro e w' ⟨rfl, rfl⟩
  go_wp2
  have hB0 : Below w.heap.size w (w.alloc (.cells (cellsOf (List.replicate (l.length + 1) 0)) 40)) := (Below.refl _ _).alloc (Nat.le_refl _) _
  have hK0 : Blk (w.alloc (.cells (cellsOf (List.replicate (l.length + 1) 0)) 40)) w.heap.size 40 (cellsOf (List.replicate (l.length + 1) 0)) := Blk.new _ _ _
  clear hmk
  go_loopw [8, 30] (fun cv i wr => ∃ (k c : Nat) (out : List Int), k ≤ l.length ∧ i = .int .i64 k ∧ cv = .int .u64 c ∧ c ≤ 1 ∧ InR out ∧ l.length + 1 ≤ out.length ∧ out.length ≤ l.length + 1 ∧ Blk wr w.heap.size 40 (cellsOf out) ∧ Below w.heap.size w wr ∧ Hid (val (out.take k) + 4294967296 ^ k * c = val (l.take k) + val (m.take k))) (fun _ i _ => l.length - (intOf i).toNat)
  case atStart => exact ⟨0, 0, List.replicate (l.length + 1) 0, Nat.zero_le _, rfl, rfl, by omega, InR.replicate _ (by omega) (by omega), by simp, by simp, hK0, hB0, by show val _ + _ = _; simp [val]⟩
  case round =>
    obtain ⟨k, cN, out, hk, rfl, rfl, hc1, hro, hlo, hlo', hK, hB, HV⟩ := hrel
    clear hK0 hB0
    by_cases hlt : k < l.length
    · obtain ⟨ad, rfl, hcl⟩ := (h.below hB).at_ hlt
      have hx := h.inr.getD k
      have hy := h'.inr.getD k
      have hg := hK.cell k
      rw [cellsOf_get _ _ (by omega)] at hg
      have hf := hK.frozen k
      have st := add_step l m out k cN (cN + (l.getD k 0).toNat + (m.getD k 0).toNat) (by omega) HV rfl
      have hm0 : ¬ k < m.length → m.getD k 0 = 0 := fun hn => by simp [List.getD_eq_getElem?_getD, Nat.not_lt.1 hn]
      have hcm : k < m.length → ∃ ad', A' = some ad' ∧ wr.cell? (ad'.add k) = some (.int .u32 (m.getD k 0)) := fun hn => (h'.below hB).at_ hn
      generalize l.getD k 0 = x at *
      generalize m.getD k 0 = y at *
      generalize out.getD k 0 = z at *
      have hx0 := hx.1
      have hx1 := hx.2
      have hy0 := hy.1
      have hy1 := hy.2
      have ST := Lib.hid st
      have HH := Lib.hid h'
      have HK := Lib.hid hK
      have HB := Lib.hid hB
      have HR := Lib.hid hro
      clear st hx hy h' hK hB hro h hl hm C1
      by_cases hkm : k < m.length
      · obtain ⟨ad', rfl, hcm⟩ := hcm hkm
        clear hm0
        go_wp2
        go_roundw
        case rel =>
          refine ⟨k + 1, (cN + x.toNat + y.toNat) / 4294967296, out.set k (((cN + x.toNat + y.toNat) % 4294967296 : Nat) : Int), by omega, by go_num, ?_, by omega, HR.out.set _ (by omega) (by omega), by simp; omega, by simp; omega, ?_, HB.out.setCell (Nat.le_refl _) _, ST.out⟩
          · congr 1; omega
          · rw [← cellsOf_set]
            have e : ((cN : Int) + x + y) % 4294967296 = (((cN + x.toNat + y.toNat) % 4294967296 : Nat) : Int) := by omega
            rw [← e]; exact HK.out.set_ k _
        case measure => first | (simp [intOf]; done) | (simp [intOf]; omega)
      · obtain rfl := hm0 hkm
        clear hcm
        go_wp2
        go_roundw
        case rel =>
          refine ⟨k + 1, (cN + x.toNat + (0 : Int).toNat) / 4294967296, out.set k (((cN + x.toNat + (0 : Int).toNat) % 4294967296 : Nat) : Int), by omega, by go_num, ?_, by omega, HR.out.set _ (by omega) (by omega), by simp; omega, by simp; omega, ?_, HB.out.setCell (Nat.le_refl _) _, ST.out⟩
          · congr 1; omega
          · rw [← cellsOf_set]
            have e : ((cN : Int) + x) % 4294967296 = (((cN + x.toNat + (0 : Int).toNat) % 4294967296 : Nat) : Int) := by omega
            rw [← e]; exact HK.out.set_ k _
        case measure => first | (simp [intOf]; done) | (simp [intOf]; omega)
    · obtain rfl : k = l.length := by omega
      have hg := hK.cell l.length
      rw [cellsOf_get _ _ (by omega)] at hg
      have hf := hK.frozen l.length
      generalize out.getD l.length 0 = z at *
      have hv : val (out.set l.length (cN : Int)) = val l + val m := by
        have e1 := take_set_val out l.length (cN : Int) (by omega)
        rw [List.take_of_length_le (by simp; omega)] at e1
        have e2 : val (out.take l.length) + 4294967296 ^ l.length * cN = val (l.take l.length) + val (m.take l.length) := HV
        rw [List.take_length, val_le_of_take m _ hle] at e2
        rw [e1, Int.toNat_natCast, e2]
      have hr2 : InR (out.set l.length (cN : Int)) := hro.set _ (by omega) (by omega)
      have hlen2 : (out.set l.length (cN : Int)).length = l.length + 1 := by simp; omega
      have hK2 : Blk (wr.setCell ⟨w.heap.size, l.length, none⟩ (.int .u32 (cN : Int))) w.heap.size 40 (cellsOf (out.set l.length (cN : Int))) := by
        rw [← cellsOf_set]; exact hK.set_ _ _
      have hO := Ow.of_blk (Nat.le_refl _) hK2 hr2 (by omega)
      have T := told_ok (some ⟨w.heap.size, 0, none⟩) (l.length + 1) _ _ hO.rd (by omega) (by have := cut_le (out.set l.length (cN : Int)); omega)
      have hcw := cut_words hr2
      rw [hv] at hcw
      have hO2 := hO.take (cut (out.set l.length (cN : Int))).length
      rw [← cut_take, hcw] at hO2
      rw [hcw] at T
      rw [hlen2] at T hO2
      have T' := Lib.hid T
      have O' := Lib.hid hO2
      have HB' := Lib.hid (hB.setCell (p := ⟨w.heap.size, l.length, none⟩) (Nat.le_refl _) (.int .u32 (cN : Int)))
      clear T hO2 hO hK2 hlen2 hcw hv hr2 hB hK HV hro h h' hl hm C1
      go_wp2_with fail
      refine T'.out.mono ?_
      rintro e w1 ⟨rfl, rfl⟩
      go_wp2
      go_ret2
      exact ⟨_, _, rfl, O'.out, HB'.out⟩

theorem Add_any (A A' : Option Addr) (c c' : Nat) (l m : List Int) (w : World) (h : Rd w A l) (h' : Rd w A' m) (hl : Norm l) (hl8 : l.length ≤ 8190) (hm : Norm m) (hm8 : m.length ≤ 8190) :
    Calls Tryz.prog 30 #[.slice A l.length c, .slice A' m.length c'] w fun e w' =>
      ∃ B d, e = .returned (.tuple #[.slice B (words (val l + val m)).length d, .int .i64 0]) ∧ Ow w' w.heap.size B d (words (val l + val m)) ∧ Below w.heap.size w w' := by
  by_cases hle : m.length ≤ l.length
  · exact Add_ge A A' c c' l m w h h' hl hl8 hm hle
  · rw [Nat.add_comm]
    exact Add_lt A' A c' c m l w h' h hm hm8 hl (by omega)
end Go.Proofs.YtbjclfmplndkcaaGreatDoor
