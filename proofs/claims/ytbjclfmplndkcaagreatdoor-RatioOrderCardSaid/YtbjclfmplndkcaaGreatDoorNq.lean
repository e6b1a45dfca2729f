/-
  PACKAGE nat: grow.
-/
import Derived.Test.YtbjclfmplndkcaaGreatDoorNd
set_option linter.unusedVariables false
set_option linter.unusedSimpArgs false
set_option linter.unnecessarySimpa false
namespace Go.Proofs.YtbjclfmplndkcaaGreatDoor
open Go.RowKit Pl

theorem owns_of_ow {w : World} {base c : Nat} {A : Option Addr} {l : List Int} (h : Ow w base A c l) : w.ownsRow base 40 1 (.slice A l.length c) l.length (l.map (Value.int .u32)) := by
  refine ⟨by simp, ?_⟩
  rcases h with ⟨rfl, rfl, rfl⟩ | ⟨g, rfl, hb, cs, hk, hs, hl, hr, hm, hc⟩
  · exact .inl ⟨rfl, rfl⟩
  · refine .inr ⟨g, c, cs, rfl, hb, hk, hl, by simp only [maxLen]; omega, by omega, ?_⟩
    apply List.ext_getElem?
    intro j
    by_cases hj : j < l.length
    · rw [List.getElem?_take_of_lt (by omega), Array.getElem?_toList, hc j hj]
      simp [hj]
    · rw [List.getElem?_eq_none (by simp; omega), List.getElem?_eq_none (by simp; omega)]
theorem grow_step (l out : List Int) (k c m s : Nat) (hi : k < out.length) (h : val (out.take k) + 4294967296 ^ k * c = val (l.take k) * 1000000000 + m) (hs : s = c + (l.getD k 0).toNat * 1000000000) :
    val ((out.set k ((s % 4294967296 : Nat) : Int)).take (k + 1)) + 4294967296 ^ (k + 1) * (s / 4294967296) = val (l.take (k + 1)) * 1000000000 + m := by
  rw [take_set_val _ _ _ hi, take_succ_val, Nat.pow_succ]
  have e : ((s % 4294967296 : Nat) : Int).toNat = s % 4294967296 := by omega
  rw [e]
  have h2 : s = 4294967296 * (s / 4294967296) + s % 4294967296 := (Nat.div_add_mod s 4294967296).symm
  have h3 : 4294967296 ^ k * s = 4294967296 ^ k * (4294967296 * (s / 4294967296) + s % 4294967296) := by rw [← h2]
  rw [hs] at h3
  rw [← hs] at h3
  have h4 : 4294967296 ^ k * s = 4294967296 ^ k * c + 4294967296 ^ k * ((l.getD k 0).toNat * 1000000000) := by rw [hs]; grind
  grind
theorem InR.one {x : Int} (h0 : 0 ≤ x) (h1 : x < 4294967296) : InR [x] := by intro y hy; rw [List.mem_singleton] at hy; omega
theorem news_word {w : World} {x : Value} {t : TypeId} : ∀ j u, [x][j]? = some u → (w.alloc (.cells #[x] t)).cell? ((⟨w.heap.size, 0, none⟩ : Addr).add j) = some u := by
  intro j u hj
  cases j with
  | zero =>
    simp only [List.getElem?_cons_zero, Option.some.injEq] at hj
    subst hj
    rw [add_plain, World.cell?_alloc_new]; rfl
  | succ j => simp at hj

set_option maxHeartbeats 1000000 in
theorem grow_any (base c : Nat) (A : Option Addr) (l : List Int) (m : Nat) (w : World) (h : Ow w base A c l) (hb : base ≤ w.heap.size) (hm : m < 4294967296) (hl : l.length ≤ 100000) :
    Calls Tryz.prog 51 #[.slice A l.length c, .int .u32 1000000000, .int .u32 m] w fun e w' =>
      ∃ B d out, e = .returned (.slice B out.length d) ∧ Ow w' base B d out ∧ Below base w w' ∧ val out = val l * 1000000000 + m ∧ out.length ≤ l.length + 1 := by
  obtain ⟨i0, hi0, hz0, hz1, hz2⟩ := info_parts info_word
  rcases h with ⟨rfl, rfl, rfl⟩ | ⟨g, rfl, hgb, hk⟩
  · by_cases hc : 0 < m
    · go_enter Tryz.func51, Tryz.ntmps51
      go_wp2
      refine wp_loop_rounds 1 ?_
      rw [rounds_succ]
      go_wp2_with (at_builtin; refine wpList_append_own_at _ rfl (.tmp 36) (.tmp 39) 22 rfl base 40 i0 _ 1 4 Tryz.underlying22 hi0 hz0 hz1 hz2 rfl (by omega) (.slice none 0 0) 0 [] rfl (World.ownsRow_nil _ _ _ _) ⟨w.heap.size, 0, none⟩ 1 1 [.int .u32 m] rfl rfl news_word (one_words [(m : Int)]) (by simp only [maxLen]; omega) (by omega) (by simp; omega) ?_)
      intro v' w1 hown hg _ _
      obtain ⟨B, d, rfl, hO⟩ := ow_of_owns (l := [(m : Int)]) hown (by simp) (InR.one (by omega) (by omega))
      have HO := Lib.hid hO
      have HB := Lib.hid (((Below.refl base w).alloc hb _).grown hg (by simp; omega) (fun k hk => by simp [Value.ownBlock] at hk))
      clear hO hg hown
      go_wp2
      go_ret
      exact ⟨B, d, [(m : Int)], rfl, HO.out, HB.out, by simp [val], by simp⟩
    · obtain rfl : m = 0 := by omega
      go_enter Tryz.func51, Tryz.ntmps51
      go_wp2
      refine wp_loop_rounds 1 ?_
      rw [rounds_succ]
      go_wp2
      go_ret
      exact ⟨none, 0, [], rfl, Ow.nil _ _, Below.refl _ _, by simp [val], by simp⟩
  · have hlen := hk.le
    have hmax := hk.max
    have H0 : Hid (Ow w base (some ⟨g, 0, none⟩) c l) := Lib.hid (.inr ⟨g, rfl, hgb, hk⟩)
    have HW := Lib.hid hb
    clear hb
    go_enter Tryz.func51, Tryz.ntmps51
    go_wp2
    go_loopw [7, 14] (fun cv i wr => ∃ (k cN : Nat) (out : List Int), k ≤ l.length ∧ i = .int .i64 k ∧ cv = .int .u64 cN ∧ cN ≤ 4294967295 ∧ out.length ≤ l.length ∧ l.length ≤ out.length ∧ Bw wr g c out ∧ w.grownBy wr (some g) ∧
        Hid (val (out.take k) + 4294967296 ^ k * cN = val (l.take k) * 1000000000 + m ∧ ∀ j, k ≤ j → out.getD j 0 = l.getD j 0)) (fun _ i _ => l.length - (intOf i).toNat)
    case atStart => exact ⟨0, m, l, Nat.zero_le _, rfl, rfl, by omega, Nat.le_refl _, Nat.le_refl _, hk, only_refl _ _, Lib.hid ⟨by simp [val], fun _ _ => rfl⟩⟩
    case round =>
      obtain ⟨k, cN, out, hkl, rfl, rfl, hc1, hl1, hl2, hK, hG, HV⟩ := hrel
      by_cases h0 : k < l.length
      · have hg := hK.cell (j := k) (by omega)
        have hf := hK.frozen k
        have hx := hK.inr.getD k
        have E := HV.out.2 k (Nat.le_refl _)
        have ST := fun s hs => grow_step l out k cN m s (by omega) HV.out.1 hs
        rw [← E] at ST
        have HE := Lib.hid HV.out.2
        clear E HV
        generalize out.getD k 0 = x at *
        have hx0 := hx.1
        have hx1 := hx.2
        obtain ⟨sN, hsN⟩ : ∃ sN : Nat, sN = cN + x.toNat * 1000000000 := ⟨_, rfl⟩
        have HE1 := Lib.hid (show (cN : Int) + x * 1000000000 = (sN : Int) by omega)
        have HS := Lib.hid (ST sN hsN)
        clear hsN
        have KK := Lib.hid hK
        have KG := Lib.hid hG
        clear ST hx hK hG hk
        go_wp2
        go_roundw
        case rel =>
          refine ⟨k + 1, sN / 4294967296, out.set k ((sN % 4294967296 : Nat) : Int), by omega, by go_num, ?_, ?_, by simp; omega, by simp; omega, ?_, ?_, Lib.hid ⟨HS.out, fun j hj => ?_⟩⟩
          · rw [HE1.out]; rfl
          · have := HE1.out; omega
          · rw [HE1.out]; exact KK.out.set k (x := ((sN % 4294967296 : Nat) : Int)) (by omega) (by omega)
          · exact only_setCell KG.out k _
          · rw [getD_set_ne _ _ _ _ (by omega)]; exact HE.out j (by omega)
        case measure => first | (simp [intOf]; done) | (simp [intOf]; omega)
      · obtain rfl : k = l.length := by omega
        have eL : out.length = l.length := by omega
        have t2 : out.take l.length = out := List.take_of_length_le (by omega)
        have hv : val out + 4294967296 ^ out.length * cN = val l * 1000000000 + m := by
          have := HV.out.1
          rw [t2, List.take_length] at this
          rw [eL]; exact this
        have Hv := Lib.hid hv
        have KK := Lib.hid hK
        have KG := Lib.hid hG
        clear hv HV hK hG hk t2
        have KO : Hid (Ow wr base (some ⟨g, 0, none⟩) c out) := Lib.hid (.inr ⟨g, rfl, hgb, KK.out⟩)
        by_cases hc : 0 < cN
        · have hown0 := Lib.hid (owns_of_ow KO.out)
          rw [eL] at hown0
          go_wp2_with (at_builtin; refine wpList_append_own_at _ rfl (.tmp 36) (.tmp 39) 22 rfl base 40 i0 _ 1 4 Tryz.underlying22 hi0 hz0 hz1 hz2 rfl (by omega) _ l.length (out.map (Value.int .u32)) rfl (hown0.out.alloc _) ⟨wr.heap.size, 0, none⟩ 1 1 [.int .u32 cN] rfl rfl news_word (one_words [(cN : Int)]) (by simp only [maxLen]; omega) (by omega) (by have := KG.out.size; have := HW.out; simp; omega) ?_)
          intro v' w1 hown hg _ _
          obtain ⟨B, d, rfl, hO⟩ := ow_of_owns (l := out ++ [(cN : Int)]) (by rw [show l.length + 1 = (out ++ [(cN : Int)]).length by simp [eL]] at hown; exact hown) (by simp) (KK.out.inr.append (InR.one (by omega) (by omega)))
          have HO := Lib.hid hO
          have HB0 := H0.out.only KG.out HW.out
          have HB := Lib.hid ((HB0.alloc (Nat.le_trans HW.out KG.out.size) _).grown hg (by have := KG.out.size; have := HW.out; simp; omega) (fun k hk => by simp [Value.ownBlock] at hk; omega))
          clear hO hg hown HB0
          go_wp2
          go_ret
          have HV := Hv.out
          refine ⟨B, d, out ++ [(cN : Int)], rfl, HO.out, HB.out, ?_, by simp [eL]⟩
          rw [val_append, ← HV]
          show _ + _ * (cN + 4294967296 * 0) = _
          rw [Nat.mul_zero, Nat.add_zero]
        · obtain rfl : cN = 0 := by omega
          have HB := Lib.hid (H0.out.only KG.out HW.out)
          go_wp2
          go_ret
          have HV := Hv.out
          exact ⟨some ⟨g, 0, none⟩, c, out, ret_slice eL.symm, KO.out, HB.out, by rw [← HV]; simp, by rw [eL]; exact Nat.le_succ _⟩
end Go.Proofs.YtbjclfmplndkcaaGreatDoor
