/-
  PACKAGE nat, NINTH PART: Of, Uint64, small sizes.
-/
import Derived.Test.YtbjclfmplndkcaaGreatDoorNh
set_option linter.unusedVariables false
set_option linter.unusedSimpArgs false
set_option linter.unnecessarySimpa false
namespace Go.Proofs.YtbjclfmplndkcaaGreatDoor
open Go.RowKit Pl

set_option maxHeartbeats 400000 in
theorem Of_any (x : Nat) (w : World) (hx : x < 18446744073709551616) :
    Calls Tryz.prog 44 #[.int .u64 x] w fun e w' =>
      ∃ B d, e = .returned (.slice B (words x).length d) ∧ Ow w' w.heap.size B d (words x) ∧ Below w.heap.size w w' := by
  obtain ⟨lo, hlo⟩ : ∃ lo : Nat, lo = x % 4294967296 := ⟨_, rfl⟩
  obtain ⟨hi, hhi⟩ : ∃ hi : Nat, hi = x / 4294967296 := ⟨_, rfl⟩
  have e1 : (x : Int) % 4294967296 = (lo : Int) := by omega
  have e2 : (x : Int) / 4294967296 = (hi : Int) := by omega
  have e3 : (hi : Int) % 4294967296 = (hi : Int) := by omega
  have hr : InR [(lo : Int), (hi : Int)] := InR.cons (by omega) (by omega) (InR.cons (by omega) (by omega) InR.nil)
  have hv : val [(lo : Int), (hi : Int)] = x := by simp only [val, Int.toNat_natCast]; omega
  have hK : Bw (w.alloc (.cells (cellsOf [(lo : Int), (hi : Int)]) 40)) w.heap.size 2 [(lo : Int), (hi : Int)] := Bw.of_blk (Blk.new _ _ _) hr (by simp)
  have T := cut_any (some ⟨w.heap.size, 0, none⟩) 2 _ _ hK.rd hK.le
  have hcw := cut_words hr
  rw [hv] at hcw
  have hO := hK.take (cut [(lo : Int), (hi : Int)]).length
  rw [← cut_take, hcw] at hO
  rw [hcw] at T
  have T' := Lib.hid T
  have O' := Lib.hid hO
  have B' := Lib.hid ((Below.refl w.heap.size w).alloc (Nat.le_refl _) (.cells (cellsOf [(lo : Int), (hi : Int)]) 40))
  clear T hO hcw hv hr hK hlo hhi hx
  go_enter Tryz.func44, Tryz.ntmps44
  go_wp2_with fail
  refine T'.out.mono ?_
  rintro e w1 ⟨rfl, rfl⟩
  go_wp2
  go_ret
  exact ⟨_, _, rfl, .inr ⟨_, rfl, Nat.le_refl _, O'.out⟩, B'.out⟩

theorem or64_00 (y : Int) (h0 : 0 ≤ y) (h1 : y < 4294967296) : bits BinOp.or IntKind.u64 0 y = y := by
  obtain ⟨b, rfl⟩ := Int.eq_ofNat_of_zero_le h0
  have := u64_or_nat 0 b (by omega) (by omega)
  rw [Nat.zero_or] at this
  exact this
set_option maxHeartbeats 400000 in
theorem Uint64_any (A : Option Addr) (c : Nat) (l : List Int) (w : World) (h : Rd w A l) (hc : l.length ≤ c) (hn : Norm l) (hl : l.length ≤ 2) :
    Calls Tryz.prog 43 #[.slice A l.length c] w fun e w' => e = .returned (.tuple #[.int .u64 (val l), .bool true]) ∧ w = w' := by
  have C := cut_any A c l w h hc
  have e0 : Pl.cut l = l := norm_ext (cut_norm h.inr) hn (cut_val l)
  rw [e0] at C
  have HC := Lib.hid C
  clear C e0
  match l, hl with
  | [], _ =>
    go_enter Tryz.func43, Tryz.ntmps43
    go_wp2_with fail
    refine HC.out.mono ?_
    rintro e w1 ⟨rfl, rfl⟩
    go_wp2
    refine wp_loop_rounds 1 ?_
    rw [rounds_succ]
    go_wp2
    go_ret2
    exact ⟨rfl, rfl⟩
  | [a], _ =>
    obtain ⟨ad, rfl, hcell⟩ := h.at_ (i := 0) (by simp)
    have ha := h.inr.getD 0
    have ha0 : 0 ≤ a := ha.1
    have ha1 : a < 4294967296 := ha.2
    have hcell' : w.cell? ad = some (.int .u32 a) := by
      have e : ad.add 0 = ad := by unfold Addr.add; simp
      rw [e] at hcell; exact hcell
    have o := or64_00 a ha0 ha1
    have hv : (val [a] : Int) = a := by simp only [val]; omega
    rw [hv]
    clear hv hcell ha
    go_enter Tryz.func43, Tryz.ntmps43
    go_wp2_with fail
    refine HC.out.mono ?_
    rintro e w1 ⟨rfl, rfl⟩
    go_wp2
    refine wp_loop_rounds 2 ?_
    rw [rounds_succ]
    go_wp2
    rw [rounds_succ]
    go_wp2
    go_ret2
    exact ⟨rfl, rfl⟩
  | [a, b], _ =>
    obtain ⟨ad, rfl, hcell⟩ := h.at_ (i := 0) (by simp)
    have hcell2 : w.cell? ⟨ad.block, ad.off + 1, none⟩ = some (.int .u32 b) := by
      obtain ⟨ad', e, h1⟩ := h.at_ (i := 1) (by simp)
      injection e with e; subst e
      have e : ad.add 1 = ⟨ad.block, ad.off + 1, none⟩ := by unfold Addr.add; simp
      rw [e] at h1; exact h1
    have ha := h.inr.getD 0
    have ha0 : 0 ≤ a := ha.1
    have ha1 : a < 4294967296 := ha.2
    have hb := h.inr.getD 1
    have hb0 : 0 ≤ b := hb.1
    have hb1 : b < 4294967296 := hb.2
    have hcell' : w.cell? ad = some (.int .u32 a) := by
      have e : ad.add 0 = ad := by unfold Addr.add; simp
      rw [e] at hcell; exact hcell
    have o := or64_00 a ha0 ha1
    have o2 := or64' a b ha0 ha1 hb0 hb1
    have hv : val [a, b] = a.toNat + 4294967296 * b.toNat := by simp only [val]; omega
    rw [hv]
    generalize a.toNat + 4294967296 * b.toNat = X at *
    clear hv hcell ha hb
    go_enter Tryz.func43, Tryz.ntmps43
    go_wp2_with fail
    refine HC.out.mono ?_
    rintro e w1 ⟨rfl, rfl⟩
    go_wp2
    refine wp_loop_rounds 3 ?_
    rw [rounds_succ]
    go_wp2
    rw [rounds_succ]
    go_wp2
    rw [rounds_succ]
    go_wp2
    go_ret2
    exact ⟨rfl, rfl⟩
end Go.Proofs.YtbjclfmplndkcaaGreatDoor
