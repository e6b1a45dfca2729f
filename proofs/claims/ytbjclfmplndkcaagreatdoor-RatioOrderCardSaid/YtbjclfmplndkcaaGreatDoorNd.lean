/-
  PACKAGE nat, FOURTH PART: Clone, less, Sub.
-/
import Derived.Test.YtbjclfmplndkcaaGreatDoorNc
import Derived.Maps.AppendAt
import Derived.Deep.AppendLies
set_option linter.unusedVariables false
set_option linter.unusedSimpArgs false
set_option linter.unnecessarySimpa false
namespace Go.Proofs.YtbjclfmplndkcaaGreatDoor
open Go.RowKit Pl

theorem ow_of_owns {w : World} {base n : Nat} {v : Value} {xs : List Value} {l : List Int} (h : w.ownsRow base 40 1 v n xs) (hx : xs = l.map (Value.int .u32)) (hr : InR l) :
    ∃ A c, v = .slice A l.length c ∧ Ow w base A c l := by
  subst hx
  obtain ⟨hlen, h⟩ := h
  have hn : n = l.length := by simpa using hlen.symm
  subst hn
  rcases h with ⟨rfl, h0⟩ | ⟨g, cap, cur, rfl, hb, hh, hc, hm, hs, ht⟩
  · have : l = [] := List.eq_nil_of_length_eq_zero h0
    subst this
    exact ⟨none, 0, rfl, Ow.nil _ _⟩
  · refine ⟨some ⟨g, 0, none⟩, cap, rfl, .inr ⟨g, rfl, hb, cur, hh, by omega, hc, hr, hm, fun j hj => ?_⟩⟩
    have e : (cur.toList.take (l.length * 1))[j]? = (l.map (Value.int .u32))[j]? := by rw [ht]
    rw [List.getElem?_take_of_lt (by omega)] at e
    rw [← Array.getElem?_toList, e]
    simp [hj]
theorem one_words (l : List Int) : ∀ u ∈ l.map (Value.int .u32), u.oneCell' = true := ints_oneCell .u32 l
theorem news_words {w : World} {ad : Addr} {l : List Int} (h : Rd w (some ad) l) : ∀ j u, (l.map (Value.int .u32))[j]? = some u → w.cell? (ad.add j) = some u := by
  intro j u hj
  have hjl : j < l.length := by
    rcases Nat.lt_or_ge j l.length with h | h
    · exact h
    · rw [List.getElem?_eq_none (by simpa using h)] at hj; cases hj
  obtain ⟨ad', e, hc⟩ := h.cells (by omega)
  injection e with e
  subst e
  rw [hc j hjl]
  simpa [hjl, List.getD_eq_getElem?_getD] using hj
set_option maxHeartbeats 400000 in
theorem Clone_any (A : Option Addr) (c : Nat) (l : List Int) (w : World) (h : Rd w A l) (hc : l.length ≤ c) (hs : l.length ≤ 1000000) :
    Calls Tryz.prog 41 #[.slice A l.length c] w fun e w' =>
      ∃ B d, e = .returned (.slice B l.length d) ∧ Ow w' w.heap.size B d l ∧ Below w.heap.size w w' := by
  rcases A with _ | ad
  · have hl : l = [] := by
      cases l with
      | nil => rfl
      | cons x xs => obtain ⟨ad, h, _⟩ := h.cells (by simp); cases h
    subst hl
    have hn : ∀ W : World, (binOp .eql 22 (.slice none 0 c) (.slice none 0 0)).run Tryz.prog W = .ok (.bool true) W := fun W => Lib.run_eql_slice_nil W 22 _ _ _ _ _ _ Tryz.underlying22
    go_enter Tryz.func41, Tryz.ntmps41
    go_wp2
    go_ret
    exact ⟨none, 0, rfl, Ow.nil _ _, Below.refl _ _⟩
  · have hn : ∀ W : World, (binOp .eql 22 (.slice (some ad) l.length c) (.slice none 0 0)).run Tryz.prog W = .ok (.bool false) W := fun W => Lib.run_eql_slice_nil W 22 _ _ _ _ _ _ Tryz.underlying22
    obtain ⟨i0, hi0, hz0, hz1, hz2⟩ := info_parts info_word
    have hA : Below w.heap.size w (w.alloc (.cells #[] 40)) := (Below.refl _ _).alloc (Nat.le_refl _) _
    have h1 := h.below hA
    go_enter Tryz.func41, Tryz.ntmps41
    go_wp2_with (at_builtin; refine wpList_append_own_at _ rfl (.tmp 5) (.tmp 6) 22 rfl w.heap.size 40 i0 _ 1 4 Tryz.underlying22 hi0 hz0 hz1 hz2 rfl (by omega) (.slice (some ⟨w.heap.size, 0, none⟩) 0 0) 0 [] rfl (World.ownsRow_made (size := 1) w #[] 0 (Nat.le_refl _) (Nat.zero_le _) rfl) ad l.length c (l.map (Value.int .u32)) rfl (by simp) (news_words h1) (one_words l) (by simp only [maxLen]; omega) (by omega) hA.size ?_)
    intro v' w1 hown hg _ _
    obtain ⟨B, d, rfl, hO⟩ := ow_of_owns hown (by simp) h.inr
    have HO := Lib.hid hO
    have HB := Lib.hid (hA.grown hg hA.size (fun k hk => by simp [Value.ownBlock] at hk; omega))
    clear hO hg hown h1 hA hn
    go_wp2
    go_ret
    exact ⟨_, _, rfl, HO.out, HB.out⟩

/-- What came in ahead of w's own blocks stands, whatever one of these turns to. -/
theorem Rd.far {w0 w W : World} {A : Option Addr} {m : List Int} {g : Nat} (h : Rd w0 A m) (hb : Below w0.heap.size w0 w) (hg : w0.heap.size ≤ g) (hW : w.grownBy W (some g)) : Rd W A m :=
  h.keep fun p v hc => by
    have hp := World.block_lt_of_cell? w0 p hc
    rw [World.cell?_of_block (hW.block p.block (Nat.lt_of_lt_of_le hp hb.size) (by simp; omega))]
    exact (hb.cell hp).trans hc

theorem wrap_u64' (n : Int) : IntKind.u64.wrap n = n % 18446744073709551616 := by simp [IntKind.wrap, IntKind.bits, IntKind.signed]
theorem borrow_two (x y : Int) (b : Nat) (hx0 : 0 ≤ x) (hx1 : x < 4294967296) (hy0 : 0 ≤ y) (hy1 : y < 4294967296) (hb : b ≤ 1) :
    ∃ d b' : Nat, IntKind.u64.wrap (IntKind.u64.wrap (x - b) - y) % 4294967296 = d ∧ IntKind.u64.wrap (IntKind.u64.wrap (x - b) - y) / 9223372036854775808 = b' ∧
      d < 4294967296 ∧ b' ≤ 1 ∧ d + y.toNat + b = x.toNat + 4294967296 * b' := by
  rw [wrap_u64', wrap_u64']
  by_cases h : 0 ≤ x - b - y
  · exact ⟨(x - b - y).toNat, 0, by omega, by omega, by omega, by omega, by omega⟩
  · exact ⟨(x - b - y + 4294967296).toNat, 1, by omega, by omega, by omega, by omega, by omega⟩
theorem borrow_one (x : Int) (b : Nat) (hx0 : 0 ≤ x) (hx1 : x < 4294967296) (hb : b ≤ 1) :
    ∃ d b' : Nat, IntKind.u64.wrap (x - b) % 4294967296 = d ∧ IntKind.u64.wrap (x - b) / 9223372036854775808 = b' ∧
      d < 4294967296 ∧ b' ≤ 1 ∧ d + (0 : Int).toNat + b = x.toNat + 4294967296 * b' := by
  rw [wrap_u64']
  by_cases h : 0 ≤ x - b
  · exact ⟨(x - b).toNat, 0, by omega, by omega, by omega, by omega, by omega⟩
  · exact ⟨(x - b + 4294967296).toNat, 1, by omega, by omega, by omega, by omega, by omega⟩
/-- one round of a difference -/
theorem less_step (l m out : List Int) (k b d b' : Nat) (hi : k < out.length) (h : val (out.take k) + val (m.take k) = val (l.take k) + 4294967296 ^ k * b)
    (hd : d + (m.getD k 0).toNat + b = (l.getD k 0).toNat + 4294967296 * b') (hm1 : (m.getD k 0).toNat < 4294967296) :
    val ((out.set k (d : Int)).take (k + 1)) + val (m.take (k + 1)) = val (l.take (k + 1)) + 4294967296 ^ (k + 1) * b' := by
  have e := off_step l m out k 1 0 b (m.getD k 0).toNat d b' hi (by rw [Nat.one_mul, Nat.zero_add]; exact h) (by rw [Nat.zero_add, Nat.one_mul, Nat.mod_eq_of_lt hm1]) hd
  simp only [Nat.zero_add, Nat.one_mul, Nat.div_eq_of_lt hm1] at e
  exact e
set_option maxHeartbeats 1000000 in
theorem less_any (B c c' : Nat) (A A' : Option Addr) (l m : List Int) (w : World) (h : Ow w B A c l) (h' : ∀ W, w.grownBy W (A.map (·.block)) → Rd W A' m) (hm : m.length ≤ l.length) (hv : val m ≤ val l) :
    Calls Tryz.prog 60 #[.slice A l.length c, .slice A' m.length c'] w fun e w' =>
      e = .returned (.slice A (words (val l - val m)).length c) ∧ Ow w' B A c (words (val l - val m)) ∧ w.grownBy w' (A.map (·.block)) := by
  rcases h with ⟨rfl, rfl, rfl⟩ | ⟨g, rfl, hb, hk⟩
  · have hm0 : m = [] := List.eq_nil_of_length_eq_zero (by simpa using hm)
    subst hm0
    have z : val ([] : List Int) - val ([] : List Int) = 0 := rfl
    rw [z, words_zero]
    clear z h' hv hm
    go_enter Tryz.func60, Tryz.ntmps60
    go_wp2
    refine wp_loop_rounds 1 ?_
    rw [rounds_succ]
    go_wp2_with fail
    refine (cut_any none 0 [] w (Rd.nil _ _) (by simp)).mono ?_
    rintro e w1 ⟨rfl, rfl⟩
    go_wp2
    go_ret
    exact ⟨rfl, Ow.nil _ _, only_refl _ _⟩
  · have hlen := hk.le
    have hmax := hk.max
    go_enter Tryz.func60, Tryz.ntmps60
    go_wp2
    go_loopw [5, 10] (fun bv i wr => ∃ (k b : Nat) (out : List Int), k ≤ l.length ∧ i = .int .i64 k ∧ bv = .int .u64 b ∧ b ≤ 1 ∧ out.length ≤ l.length ∧ l.length ≤ out.length ∧ Bw wr g c out ∧ w.grownBy wr (some g) ∧
        Hid (val (out.take k) + val (m.take k) = val (l.take k) + 4294967296 ^ k * b ∧ ∀ j, k ≤ j → out.getD j 0 = l.getD j 0)) (fun _ i _ => l.length - (intOf i).toNat)
    case atStart => exact ⟨0, 0, l, Nat.zero_le _, rfl, rfl, by omega, Nat.le_refl _, Nat.le_refl _, hk, only_refl _ _, by show _ + _ = _ + _ ∧ _; simp [val]⟩
    case round =>
      obtain ⟨k, b, out, hkl, rfl, rfl, hb1, hl1, hl2, hK, hG, HV⟩ := hrel
      by_cases hlt : k < l.length
      · have hc := hK.cell (j := k) (by omega)
        have hf := hK.frozen k
        have hx := hK.inr.getD k
        have hx0 := hx.1
        have hx1 := hx.2
        have hxl := HV.out.2 k (by omega)
        have hR := h' wr hG
        have hy := hR.inr.getD k
        have hy0 := hy.1
        have hy1 := hy.2
        have hm0 : ¬ k < m.length → m.getD k 0 = 0 := fun hn => by simp [List.getD_eq_getElem?_getD, Nat.not_lt.1 hn]
        have hcm : k < m.length → ∃ ad', A' = some ad' ∧ wr.cell? (ad'.add k) = some (.int .u32 (m.getD k 0)) := fun hn => hR.at_ hn
        have ST := fun d b' => Lib.hid (less_step l m out k b d b' (by omega) HV.out.1)
        rw [← hxl] at ST
        generalize hxe : out.getD k 0 = x at *
        generalize hye : m.getD k 0 = y at *
        have H' := Lib.hid h'
        have HK := Lib.hid hK
        have HG := Lib.hid hG
        have STH := Lib.hid ST
        clear h' hK hG hk hx hy hR hxl hxe hye ST
        by_cases hkm : k < m.length
        · obtain ⟨ad', rfl, hcm⟩ := hcm hkm
          clear hm0
          obtain ⟨d, b', e1, e2, hd, hb', e3⟩ := borrow_two x y b hx0 hx1 hy0 hy1 hb1
          have E3 := Lib.hid e3
          clear e3
          go_wp2
          go_roundw
          case rel =>
            refine ⟨k + 1, b', out.set k (d : Int), by omega, by go_num, rfl, hb', by simp; omega, by simp; omega, HK.out.set k (by omega) (by omega), only_setCell HG.out k _, (STH.out d b').out E3.out (by omega), fun j hj => ?_⟩
            rw [getD_set_ne _ _ _ _ (by omega)]; exact HV.out.2 j (by omega)
          case measure => first | (simp [intOf]; done) | (simp [intOf]; omega)
        · obtain rfl := hm0 hkm
          clear hcm
          obtain ⟨d, b', e1, e2, hd, hb', e3⟩ := borrow_one x b hx0 hx1 hb1
          have E3 := Lib.hid e3
          clear e3
          go_wp2
          go_roundw
          case rel =>
            refine ⟨k + 1, b', out.set k (d : Int), by omega, by go_num, rfl, hb', by simp; omega, by simp; omega, HK.out.set k (by omega) (by omega), only_setCell HG.out k _, (STH.out d b').out E3.out (by omega), fun j hj => ?_⟩
            rw [getD_set_ne _ _ _ _ (by omega)]; exact HV.out.2 j (by omega)
          case measure => first | (simp [intOf]; done) | (simp [intOf]; omega)
      · have hkk : k = l.length := by omega
        have hvo : val out = val l - val m := by
          have e := HV.out.1
          subst hkk
          rw [List.take_of_length_le (by omega), List.take_of_length_le (by omega), List.take_length] at e
          have h1 := val_lt hK.inr
          have h2 : 4294967296 ^ out.length ≤ 4294967296 ^ l.length := Nat.pow_le_pow_right (by omega) hl1
          rcases Nat.eq_zero_or_pos b with hb0 | hb0
          · subst hb0; omega
          · have : b = 1 := by omega
            subst this; omega
        have T := cut_any (some ⟨g, 0, none⟩) c out wr hK.rd hK.le
        have hcw := cut_words hK.inr
        have hO := hK.take (cut out).length
        rw [← cut_take, hcw, hvo] at hO
        rw [hcw, hvo, show out.length = l.length by omega] at T
        have T' := Lib.hid T
        have O' := Lib.hid hO
        have G' := Lib.hid hG
        have H' := Lib.hid h'
        clear T hO hcw hvo HV hK hG hk hkk h'
        go_wp2_with fail
        refine T'.out.mono ?_
        rintro e w1 ⟨rfl, rfl⟩
        go_wp2
        go_ret
        exact ⟨rfl, .inr ⟨g, rfl, hb, O'.out⟩, G'.out⟩

theorem drewN_size (w : World) (n : Nat) : (w.drewN n).heap.size = w.heap.size := rfl
theorem below_drawn (w : World) (n : Nat) : Below w.heap.size w (w.drewN n) := below_drewN (Below.refl _ _) n
set_option maxHeartbeats 400000 in
theorem Sub_any (A A' : Option Addr) (c c' : Nat) (l m : List Int) (w : World) (h : Rd w A l) (h' : Rd w A' m) (hl : Norm l) (hl8 : l.length ≤ 8192) (hm : Norm m) (hm8 : m.length ≤ 8192) (hc : l.length ≤ c) (hc' : m.length ≤ c') (hv : val m ≤ val l) :
    Calls Tryz.prog 45 #[.slice A l.length c, .slice A' m.length c'] w fun e w' =>
      ∃ B d, e = .returned (.tuple #[.slice B (words (val l - val m)).length d, .int .i64 0]) ∧ Ow w' w.heap.size B d (words (val l - val m)) ∧ Below w.heap.size w w' := by
  have C1 := Lib.hid (checked_ok A A' c c' l m w h h' hl hl8 hm hm8)
  have C2 := Lib.hid (Compare_any A A' c c' l m w h hc h' hc')
  have hmlen : m.length ≤ l.length := by
    have := hm.len_le (k := l.length)
    exact this.2 (Nat.lt_of_le_of_lt hv (val_lt hl.1))
  have K1 : cmpN (val l) (val m) = 0 ∨ cmpN (val l) (val m) = 1 := by
    unfold cmpN; rw [if_neg (by omega)]; split <;> simp
  generalize cmpN (val l) (val m) = q at *
  have hq : 0 ≤ q := by omega
  have hd : decide (q < 0) = false := by simpa using hq
  have HV := Lib.hid hv
  have HL := Lib.hid hmlen
  have HS := Lib.hid hl8
  clear hmlen hv K1 hl hm hl8 hm8
  go_enter Tryz.func45, Tryz.ntmps45
  go_wp2_with fail
  refine C1.out.mono ?_
  rintro e w' ⟨rfl, rfl⟩
  go_wp2_with fail
  refine C2.out.mono ?_
  rintro e w' ⟨rfl, n, rfl⟩
  have hb0 := below_drawn w n
  go_wp2_with fail
  refine (Clone_any A c l _ (h.below hb0) hc (by have := HS.out; omega)).mono ?_
  rintro e w1 ⟨B, d, rfl, hO, hB⟩
  have HO := Lib.hid hO
  have HB := Lib.hid (below_trans hb0 hB)
  clear hO hB
  go_wp2_with fail
  refine (less_any w.heap.size d c' B A' l m w1 HO.out ?_ HL.out HV.out).mono ?_
  · intro W hW
    rcases HO.out with ⟨rfl, rfl, rfl⟩ | ⟨g, rfl, hg, hk⟩
    · have : m = [] := List.eq_nil_of_length_eq_zero (by have := HL.out; simpa using this)
      subst this; exact Rd.nil _ _
    · exact h'.far HB.out hg hW
  rintro e w2 ⟨rfl, hO2, hG2⟩
  have HO2 := Lib.hid hO2
  have HG2 := Lib.hid hG2
  clear hO2 hG2
  go_wp2
  go_ret2
  refine ⟨_, _, rfl, HO2.out, ?_⟩
  exact HB.out.trans (HO.out.only HG2.out HB.out.size)
end Go.Proofs.YtbjclfmplndkcaaGreatDoor
