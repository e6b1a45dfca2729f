/-
  PACKAGE nat, THIRD PART: small (one-word division in place).
-/
import Derived.Test.YtbjclfmplndkcaaGreatDoorNb
set_option linter.unusedVariables false
set_option linter.unusedSimpArgs false
set_option linter.unnecessarySimpa false
namespace Go.Proofs.YtbjclfmplndkcaaGreatDoor
open Go.RowKit Pl

theorem ret_2 {a b c d : Value} (h1 : a = b) (h2 : c = d) : Ending.returned (.tuple #[a, c]) = .returned (.tuple #[b, d]) := by rw [h1, h2]
theorem or64 (r : Nat) (x : Int) (hr : r < 4294967296) (h0 : 0 ≤ x) (h1 : x < 4294967296) :
    bits BinOp.or IntKind.u64 ((r : Int) * 4294967296) x = ((r * 4294967296 + x.toNat : Nat) : Int) := by
  obtain ⟨n, rfl⟩ := Int.eq_ofNat_of_zero_le h0
  have h2 : n < 4294967296 := by omega
  have e : ((r : Int) * 4294967296) = ((r * 4294967296 : Nat) : Int) := by omega
  rw [e, u64_or_nat _ _ (by omega) (by omega), nat_join 32 _ _ (by omega) (by simpa using h2)]
  simp
set_option maxHeartbeats 1000000 in
theorem small_any (B c : Nat) (A : Option Addr) (l : List Int) (d : Nat) (w : World) (h : Ow w B A c l) (hd : 0 < d) (hd2 : d < 4294967296) :
    Calls Tryz.prog 53 #[.slice A l.length c, .int .u32 d] w fun e w' =>
      e = .returned (.tuple #[.slice A (words (val l / d)).length c, .int .u32 (val l % d : Nat)]) ∧ Ow w' B A c (words (val l / d)) ∧ w.grownBy w' (A.map (·.block)) := by
  rcases h with ⟨rfl, rfl, rfl⟩ | ⟨g, rfl, hb, hk⟩
  · have z1 : val ([] : List Int) / d = 0 := by simp [val]
    have z2 : val ([] : List Int) % d = 0 := by simp [val]
    rw [z1, z2, words_zero]
    clear z1 z2
    go_enter Tryz.func53, Tryz.ntmps53
    go_wp2
    refine wp_loop_rounds 1 ?_
    rw [rounds_succ]
    go_wp2_with fail
    refine (cut_any none 0 [] w (Rd.nil _ _) (by simp)).mono ?_
    rintro e w1 ⟨rfl, rfl⟩
    go_wp2
    go_ret2
    exact ⟨rfl, Ow.nil _ _, only_refl _ _⟩
  · have hlen := hk.le
    have hmax := hk.max
    go_enter Tryz.func53, Tryz.ntmps53
    go_wp2
    go_loopw [6, 7] (fun rv i wr => ∃ (k r : Nat) (out : List Int), k ≤ l.length ∧ i = .int .i64 ((k : Int) - 1) ∧ rv = .int .u64 r ∧ r < d ∧ out.length ≤ l.length ∧ l.length ≤ out.length ∧ Bw wr g c out ∧ w.grownBy wr (some g) ∧
        Hid (val (out.drop k) * d + r = val (l.drop k) ∧ ∀ j, j < k → out.getD j 0 = l.getD j 0)) (fun _ i _ => (intOf i + 1).toNat)
    case atStart => exact ⟨l.length, 0, l, Nat.le_refl _, rfl, rfl, hd, Nat.le_refl _, Nat.le_refl _, hk, only_refl _ _, by show val _ * d + 0 = _ ∧ _; simp [val]⟩
    case round =>
      obtain ⟨k, r, out, hkl, rfl, rfl, hr, hl1, hl2, hK, hG, HV⟩ := hrel
      rcases Nat.eq_zero_or_pos k with h0 | h0
      · subst h0
        have hv : val out * d + r = val l := HV.out.1
        have hdiv : val l / d = val out := by
          rw [← hv, Nat.mul_comm, Nat.mul_add_div hd, Nat.div_eq_of_lt hr, Nat.add_zero]
        have hmod : val l % d = r := by rw [← hv, Nat.mul_comm, Nat.mul_add_mod, Nat.mod_eq_of_lt hr]
        have T := cut_any (some ⟨g, 0, none⟩) c out wr hK.rd hK.le
        have hcw := cut_words hK.inr
        have hO := hK.take (cut out).length
        rw [← cut_take, hcw, ← hdiv] at hO
        rw [hcw, ← hdiv, show out.length = l.length by omega] at T
        have M' := Lib.hid hmod
        have T' := Lib.hid T
        have O' := Lib.hid hO
        have G' := Lib.hid hG
        have e1 : IntKind.u32.wrap (r : Int) = r := by rw [IntKind.wrap_u32']; omega
        clear T hO hcw hmod hdiv hv HV hK hG hk
        go_wp2_with fail
        refine T'.out.mono ?_
        rintro e w1 ⟨rfl, rfl⟩
        go_wp2
        go_ret2
        exact ⟨ret_2 rfl (by show Value.int .u32 (r : Int) = _; rw [M'.out]), .inr ⟨g, rfl, hb, O'.out⟩, G'.out⟩
      · obtain ⟨k, rfl⟩ : ∃ m, k = m + 1 := ⟨k - 1, by omega⟩
        have e1 : (((k + 1 : Nat) : Int) - 1) = (k : Int) := by omega
        rw [e1]
        clear e1
        have hc := hK.cell (j := k) (by omega)
        have hf := hK.frozen k
        have hx := hK.inr.getD k
        have hx0 := hx.1
        have hx1 := hx.2
        have hxl := HV.out.2 k (by omega)
        have st := small_step l out k d r hd (by omega) (by omega) HV.out.1 hr (by rw [← hxl]; omega)
        rw [← hxl] at st
        have hlt2 := small_lt (x := (out.getD k 0).toNat) hd hr (by omega)
        generalize out.getD k 0 = x at *
        have hor := or64 r x (by omega) hx0 hx1
        generalize r * 4294967296 + x.toNat = s at *
        have q1 : (s : Int) / (d : Int) = ((s / d : Nat) : Int) := rfl
        have q2 : (s : Int) % (d : Int) = ((s % d : Nat) : Int) := rfl
        have q3 := Nat.mod_lt s hd
        generalize s / d = qq at *
        generalize s % d = rr at *
        have ST := Lib.hid st
        have HK := Lib.hid hK
        have HG := Lib.hid hG
        clear st hx hxl hK hG hk
        go_wp2
        go_roundw
        case rel =>
          refine ⟨k, rr, out.set k (qq : Int), by omega, rfl, congrArg (Value.int .u64) q2, q3, by simp; omega, by simp; omega, HK.out.set k (by omega) (by omega), only_setCell HG.out k _, ST.out, fun j hj => ?_⟩
          rw [getD_set_ne _ _ _ _ (by omega)]; exact HV.out.2 j (by omega)
        case measure => first | (simp [intOf]; done) | (simp [intOf]; omega)
end Go.Proofs.YtbjclfmplndkcaaGreatDoor
