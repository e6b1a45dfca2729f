/-
  PACKAGE gauss: check.
-/
import Derived.Test.YtolbafckppafkaaGreatDoorGk
import Derived.Test.YtolbafckppafkaaGreatDoorYG
set_option linter.unusedVariables false
set_option linter.unusedSimpArgs false
set_option linter.unnecessarySimpa false
namespace Go.Proofs.YtolbafckppafkaaGreatDoor
open Go.RowKit Pl

def vals (x : F × Loc) : List Value := [.bool x.1.neg, .slice x.2.A x.1.num.length x.2.c, .slice x.2.B x.1.den.length x.2.d]
def one (e : Int) (f : F) : Int := if e = 0 then chk f else e
def chks (e : Int) (rs : List (F × Loc)) : Int := rs.foldl (fun e x => one e x.1) e
def rowOf (rs : List (F × Loc)) : Array Value := (rs.flatMap vals).toArray

theorem row_at (rs : List (F × Loc)) (k : Nat) (hk : k < rs.length) :
    (rowOf rs)[k * 3]? = some (.bool (rs[k]'hk).1.neg) ∧ (rowOf rs)[k * 3 + 1]? = some (.slice (rs[k]'hk).2.A (rs[k]'hk).1.num.length (rs[k]'hk).2.c) ∧ (rowOf rs)[k * 3 + 2]? = some (.slice (rs[k]'hk).2.B (rs[k]'hk).1.den.length (rs[k]'hk).2.d) := by
  unfold rowOf
  induction rs generalizing k with
  | nil => exact absurd hk (Nat.not_lt_zero _)
  | cons x rs ih =>
    cases k with
    | zero => exact ⟨rfl, rfl, rfl⟩
    | succ k =>
      have hk' : k < rs.length := by simpa using hk
      have := ih k hk'
      simp only [List.getElem?_toArray, List.flatMap_cons, List.getElem_cons_succ] at this ⊢
      have e : (vals x).length = 3 := rfl
      rw [List.getElem?_append_right (by rw [e]; omega), List.getElem?_append_right (by rw [e]; omega), List.getElem?_append_right (by rw [e]; omega), e]
      rw [show (k + 1) * 3 - 3 = k * 3 by omega, show (k + 1) * 3 + 1 - 3 = k * 3 + 1 by omega, show (k + 1) * 3 + 2 - 3 = k * 3 + 2 by omega]
      exact this

set_option maxHeartbeats 1000000 in
theorem wayCheck_any (rs : List (F × Loc)) (g r : Nat) (e : Int) (w : World) (hg : Blk w g 71 #[.int .i64 e]) (hr : Blk w r 27 (rowOf rs)) (hn : rs.length ≤ 100)
    (hs : ∀ x ∈ rs, StL g w x.1 x.2) :
    Calls Tryz.prog 70 #[.pointer (some ⟨g, 0, none⟩), .slice (some ⟨r, 0, none⟩) rs.length rs.length] w fun e' w' =>
      e' = .returned (.tuple #[]) ∧ Blk w' g 71 #[.int .i64 (chks e rs)] ∧ w.grownBy w' (some g) := by
  have HS := Lib.hid hs
  have HR := Lib.hid hr
  have HG := Lib.hid hg
  have hne : r ≠ g := Blk.ne_type hr hg (by decide)
  clear hs hr hg
  go_enter Tryz.func70, Tryz.ntmps70
  go_wp2
  go_loopw [8, 5] (fun i j wr => ∃ k : Nat, k ≤ rs.length ∧ i = .int .i64 k ∧ Hid (Blk wr g 71 #[.int .i64 (chks e (rs.take k))]) ∧ Hid (w.grownBy wr (some g))) (fun i _ _ => rs.length - (intOf i).toNat)
  case atStart => exact ⟨0, Nat.zero_le _, rfl, HG, Lib.hid (only_refl _ _)⟩
  case round =>
    obtain ⟨k, hk, rfl, KG, KW⟩ := hrel
    by_cases h0 : k < rs.length
    · have hkl : (k : Int) < (rs.length : Int) := by omega
      have HRw := Lib.hid (HR.out.only KW.out hne)
      obtain ⟨p0, p1, p2⟩ := row_at rs k h0
      have hx := HS.out _ (List.getElem_mem h0)
      have HT := Lib.hid (show chks e (rs.take (k + 1)) = one (chks e (rs.take k)) (rs[k]'h0).1 by
        rw [List.take_succ_eq_append_getElem h0]; unfold chks; rw [List.foldl_append]; rfl)
      generalize (rs[k]'h0) = x at *
      obtain ⟨⟨fn, fl, fm⟩, ⟨A, c, A', c'⟩⟩ := x
      have HX := Lib.hid (hx.only KW.out)
      clear hx
      have q0 := (HRw.out.cell (k * 3)).trans p0
      have q1 := (HRw.out.cell (k * 3 + 1)).trans p1
      have q2 := (HRw.out.cell (k * 3 + 2)).trans p2
      simp only at q0 q1 q2 HT
      generalize chks e (rs.take k) = z at *
      clear p0 p1 p2
      have KN := Lib.hid (KG.out.alloc (.cells #[.bool fn, .slice A fl.length c, .slice A' fm.length c'] 27))
      have hp0 : (wr.alloc (.cells #[.bool fn, .slice A fl.length c, .slice A' fm.length c'] 27)).cell? ⟨g, 0, none⟩ = some (.int .i64 z) := KN.out.cell 0
      have hb0 : (wr.alloc (.cells #[.bool fn, .slice A fl.length c, .slice A' fm.length c'] 27)).cell? ⟨wr.heap.size, 0, none⟩ = some (.bool fn) := (Blk.new wr _ _).cell 0
      have hb1 : (wr.alloc (.cells #[.bool fn, .slice A fl.length c, .slice A' fm.length c'] 27)).cell? ⟨wr.heap.size, 1, none⟩ = some (.slice A fl.length c) := (Blk.new wr _ _).cell 1
      have hb2 : (wr.alloc (.cells #[.bool fn, .slice A fl.length c, .slice A' fm.length c'] 27)).cell? ⟨wr.heap.size, 2, none⟩ = some (.slice A' fm.length c') := (Blk.new wr _ _).cell 2
      have HB := Lib.hid ((Below.refl wr.heap.size wr).alloc (Nat.le_refl _) (.cells #[.bool fn, .slice A fl.length c, .slice A' fm.length c'] 27))
      have HXd := Lib.hid (HX.out.below HB.out)
      clear HX
      by_cases hz : z = 0
      · subst hz
        have HT' := Lib.hid (show chks e (rs.take (k + 1)) = chk ⟨fn, fl, fm⟩ by rw [HT.out]; rfl)
        obtain ⟨r1, r2, l1, l2⟩ := HXd.out.rd
        have C := Lib.hid (rCheck_any ⟨fn, fl, fm⟩ A A' c c' _ r1 r2 l1 l2)
        generalize chk ⟨fn, fl, fm⟩ = y at *
        clear r1 r2 l1 l2 HT HXd
        go_wp2_with fail
        refine C.out.mono ?_
        rintro e1 w1 ⟨rfl, hB⟩
        have HN := Lib.hid (KN.out.below hB KN.out.lt)
        have HW := Lib.hid (only_trans KW.out (only_trans (only_below HB.out (some g)) (only_below hB (some g))))
        have d0 : w1.cell? ⟨g, 0, none⟩ = some (.int .i64 0) := HN.out.cell 0
        have df : w1.frozen? ⟨g, 0, none⟩ = false := HN.out.frozen 0
        clear hB hp0 hb0 hb1 hb2 q0 q1 q2
        go_wp2
        go_roundw
        case rel => exact ⟨k + 1, by omega, by go_num, Lib.hid (by rw [HT'.out]; exact HN.out.set_ 0 _), Lib.hid (only_setCell HW.out 0 _)⟩
        case measure => first | (simp [intOf]; done) | (simp [intOf]; omega)
      · have HT' := Lib.hid (show chks e (rs.take (k + 1)) = z by rw [HT.out]; exact if_neg hz)
        have HW := Lib.hid (only_trans KW.out (only_below HB.out (some g)))
        clear HT HXd
        go_wp2
        go_roundw
        case rel => exact ⟨k + 1, by omega, by go_num, Lib.hid (by rw [HT'.out]; exact KN.out), HW⟩
        case measure => first | (simp [intOf]; done) | (simp [intOf]; omega)
    · have HK := Lib.hid (show chks e (rs.take k) = chks e rs by rw [List.take_of_length_le (by omega)])
      go_wp2
      go_end0
      exact ⟨rfl, by rw [← HK.out]; exact KG.out, KW.out⟩
end Go.Proofs.YtolbafckppafkaaGreatDoor
