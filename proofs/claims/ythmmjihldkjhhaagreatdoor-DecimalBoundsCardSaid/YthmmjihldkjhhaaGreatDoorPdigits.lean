/-
  Numbers of 24 elements: what 'digits' returns.
-/
import Derived.Test.YthmmjihldkjhhaaGreatDoorPparse
import Derived.Test.YthmmjihldkjhhaaGreatDoorPtimes
import Derived.Test.YthmmjihldkjhhaaGreatDoorPonly
import Derived.Test.YthmmjihldkjhhaaGreatDoorPfmt
namespace Go.Proofs.YthmmjihldkjhhaaGreatDoor
open Go Go.RowKit

theorem Pow.keep {w w' : World} (h : Pow w) (hb : Below w.heap.size w w') : Pow w' := by
  unfold Pow Lib.TabIs World.var? at *
  cases hg : Tryz.prog.globalNamed "internal/strconv.uint64pow10" with
  | none => simp [hg] at h
  | some g =>
    simp only [hg, Option.bind_some] at h ⊢
    have hlt : g < w.heap.size := by
      rcases Nat.lt_or_ge g w.heap.size with h' | h'
      · exact h'
      · rw [Array.getElem?_eq_none h'] at h; simp at h
    rw [hb.block g hlt]
    exact h
theorem Row24.keepB {W W' : World} {g B : Nat} {l : List Nat} (h : Row24 W g l) (hb : Below B W W') (hg : g < B) : Row24 W' g l := ⟨(hb.block g hg).trans h.row, h.len⟩
theorem repeat_zeros (c : Nat) (hc : c ≤ 1000) (w : World) : Calls Tryz.prog 44 #[.string ⟨#[48]⟩, .int .i64 (c : Int)] w fun e w' => (∃ r : ByteArray, e = .returned (.string r) ∧ bts r = List.replicate c 48) ∧ Below w.heap.size w w' := by
  refine (Tryz.strings_Repeat ⟨#[48]⟩ c w (by omega) (by show 1 * c ≤ _; omega)).mono ?_
  rintro e w' ⟨rfl, hb⟩
  refine ⟨⟨_, rfl, ?_⟩, hb⟩
  have e1 : Lib.repeatL (List.replicate 1 (48 : UInt8)) c = List.replicate (c * 1) 48 := Lib.repeatL_replicate 48 1 c
  show (Lib.repeatL (List.replicate 1 (48 : UInt8)) c).map UInt8.toNat = _
  rw [e1, List.map_replicate, Nat.mul_one]; rfl
theorem strCells_bts (s : ByteArray) : Lib.strCells s = u8s (bts s) := by
  have := strCells_str (bts s) (bts_all s)
  rwa [str_bts] at this
theorem top_pow : top = 10 ^ 216 := by unfold top; decide
theorem drop_low {n : List Nat} (h : Num n) (j : Nat) (hj : j ≤ 24) : Dc.valB (n.drop j) < top := by
  have h1 := Dc.valB_split n j (by rw [h.len]; exact hj)
  have h2 := valB_low h
  have h3 : 0 < 1000000000 ^ j := Nat.pow_pos (by decide)
  have h4 : 1 * Dc.valB (n.drop j) ≤ 1000000000 ^ j * Dc.valB (n.drop j) := Nat.mul_le_mul_right _ h3
  omega
theorem digs_low216 {n : List Nat} (h : Num n) (j : Nat) (hj : j ≤ 24) : (Dc.digs (Dc.valB (n.drop j))).length ≤ 216 := (Dc.digs_length (by decide)).2 (by rw [← top_pow]; exact drop_low h j hj)
theorem drop_top {n : List Nat} {k : Nat} (h : Num n) (hk : k < 24) (hv : Dc.valB n = Dc.valB (n.take (k + 1))) : Dc.valB (n.drop k) = n.getD k 0 := by
  have h1 := Dc.valB_split n k (by rw [h.len]; omega)
  rw [hv, Dc.valB_take (by rw [h.len]; exact hk)] at h1
  exact (Nat.eq_of_mul_eq_mul_left (Nat.pow_pos (by decide)) (Nat.add_left_cancel h1)).symm
theorem drop_next {n : List Nat} {j : Nat} (h : Num n) (hj : j < 24) (hne : Dc.valB (n.drop (j + 1)) ≠ 0) : Dc.digs (Dc.valB (n.drop j)) = Dc.digs (Dc.valB (n.drop (j + 1))) ++ Dc.pad 9 (n.getD j 0) ∧ Dc.valB (n.drop j) ≠ 0 := by
  have e : Dc.valB (n.drop j) = Dc.valB (n.drop (j + 1)) * 10 ^ 9 + n.getD j 0 := by
    rw [Dc.drop_getD (by rw [h.len]; exact hj), Dc.valB, show (10 : Nat) ^ 9 = 1000000000 from rfl]
    omega
  refine ⟨by rw [e]; exact Dc.digs_pad hne (by decide) (h.at j), ?_⟩
  rw [e]
  have : 0 < Dc.valB (n.drop (j + 1)) * 10 ^ 9 := Nat.mul_pos (Nat.pos_of_ne_zero hne) (Nat.pow_pos (by decide))
  omega

set_option maxRecDepth 100000 in
set_option maxHeartbeats 4000000 in
theorem pdigits_any (n : List Nat) (hn : Num n) (w : World) (hP : Pow w) : Calls Tryz.prog 51 #[.agg (numV n)] w fun e w' => (∃ t : ByteArray, e = .returned (.string t) ∧ bts t = Dc.digs (Dc.valB n)) ∧ Below w.heap.size w w' := by
  have HN : Hid _ := Lib.hid hn
  have HP : Hid _ := Lib.hid hP
  have hr := Row24.new w n hn.len
  have hb0 : Below w.heap.size w (w.alloc (.cells (numV n) 61)) := (Below.refl _ w).alloc (Nat.le_refl _) _
  have hsz : (w.alloc (.cells (numV n) 61)).heap.size = w.heap.size + 1 := Array.size_push _
  obtain ⟨W, hW⟩ : ∃ W, w.alloc (.cells (numV n) 61) = W := ⟨_, rfl⟩
  rw [hW] at hr hb0 hsz
  have HB0 : Hid _ := Lib.hid hb0
  have HSZ : Hid _ := Lib.hid hsz
  clear hn hP hb0 hsz
  go_enter Tryz.func51, Tryz.ntmps51
  go_wp2
  go_loop [3] (fun i => ∃ k : Nat, k ≤ 23 ∧ i = .int .i64 (k : Int) ∧ Hid (Dc.valB n = Dc.valB (n.take (k + 1)))) (fun i => (intOf i).toNat)
  case atStart => exact ⟨23, Nat.le_refl _, rfl, Lib.hid (by rw [List.take_of_length_le (by rw [HN.out.len]; exact Nat.le_refl _)])⟩
  case round =>
    obtain ⟨k, hk, rfl, hv⟩ := hrel
    have hk' : k < 24 := by omega
    have k0 : (0 : Int) ≤ (k : Int) := by omega
    have k1 : (k : Int) < 24 := by omega
    obtain ⟨x, hx⟩ : ∃ x, n.getD k 0 = x := ⟨_, rfl⟩
    have hxl : x < 1000000000 := by rw [← hx]; exact HN.out.at k
    have c1 := hr.cell hk'
    rw [hx] at c1
    have HX : Hid _ := Lib.hid hx
    clear hx
    by_cases hk0 : k = 0
    · have d1 : decide (0 < k) = false := decide_eq_false (by omega)
      have HK : Hid (k = 0 ∨ x ≠ 0) := Lib.hid (Or.inl hk0)
      clear hk0
      have hr2 : Row24 (W.alloc (.cells #[.pointer none, .slice none 0 0] 80)) w.heap.size n := hr.old _
      have c2 := hr2.cell hk'
      have bl0 : Lib.IsBuilder 80 5 W.heap.size W.heap.size (u8s []) (W.alloc (.cells #[.pointer none, .slice none 0 0] 80)) := .inl ⟨Nat.le_refl _, _, heap_alloc_last W _, ⟨rfl, .inl ⟨rfl, rfl⟩⟩, by simp [Value.ownBlock]⟩
      have bb0 : Below w.heap.size w (W.alloc (.cells #[.pointer none, .slice none 0 0] 80)) := HB0.out.alloc HB0.out.size _
      have bs0 : W.heap.size ≤ (W.alloc (.cells #[.pointer none, .slice none 0 0] 80)).heap.size := by rw [show (W.alloc (.cells #[.pointer none, .slice none 0 0] 80)).heap.size = W.heap.size + 1 from Array.size_push _]; omega
      rw [HX.out] at c2
      have CF : Hid _ := Lib.hid (fuint_any x (by omega) _ (HP.out.keep bb0))
      have R2 : Hid _ := Lib.hid hr2
      have BL0 : Hid _ := Lib.hid bl0
      have BB0 : Hid _ := Lib.hid bb0
      have BS0 : Hid _ := Lib.hid bs0
      have hdk : Hid (Dc.valB (n.drop k) = x) := Lib.hid (by rw [drop_top HN.out hk' hv.out, HX.out])
      clear hr2 bl0 bb0 bs0 hv
      go_wp2_with (first
        | (go_at_call 79; refine (CF.out).mono ?_; rintro e w1 ⟨⟨t, rfl, ht⟩, hb1⟩; have HT : Hid _ := Lib.hid ht; have htl : t.size ≤ 216 := (by rw [← bts_length, ht, ← hdk.out]; exact digs_low216 HN.out k (by omega)); clear ht; have B1 := BB0.out.trans (hb1.mono BB0.out.size); have S1 : W.heap.size ≤ w1.heap.size := Nat.le_trans BS0.out hb1.size; have R3 := R2.out.keep hb1; have bl1 := builder_below BL0.out hb1)
        | (go_at_call 71; refine (writeString_any W.heap.size W.heap.size _ t _ bl1 (by simp [u8s]; omega) S1).mono ?_; rintro e w2 ⟨rfl, hbl2, hb2⟩; have B2 := B1.trans (hb2.mono (by have := HSZ.out; omega)); have R4 := R3.keepB hb2 (by have := HSZ.out; omega); have S2 : W.heap.size ≤ w2.heap.size := Nat.le_trans S1 hb2.size; have BL2 : Hid (Lib.IsBuilder 80 5 W.heap.size W.heap.size (u8s (Dc.digs (Dc.valB (n.drop k)))) w2) := Lib.hid (by rw [hdk.out, ← HT.out]; have h := hbl2; rw [strCells_bts] at h; exact .inr h); clear hbl2))
      go_loopw [3] (fun i wr => ∃ (j : Nat) (z : Int), j ≤ 23 ∧ z = (j : Int) - 1 ∧ i = .int .i64 z ∧ Hid (j = 0 ∨ Dc.valB (n.drop j) ≠ 0) ∧ Hid (Lib.IsBuilder 80 5 W.heap.size W.heap.size (u8s (Dc.digs (Dc.valB (n.drop j)))) wr) ∧ Row24 wr w.heap.size n ∧ W.heap.size ≤ wr.heap.size ∧ Below w.heap.size w wr) (fun i _ => (intOf i + 1).toNat)
      case atStart => exact ⟨k, _, hk, rfl, rfl, Lib.hid (by rw [hdk.out]; exact HK.out), BL2, R4, S2, B2⟩
      case round =>
        clear R3 R4 S1 S2 B1 B2 BL2 c1 c2
        obtain ⟨j, z, hj, hz, rfl, hne, hbl, hrr, hsw, hB⟩ := hrel
        by_cases hj0 : j = 0
        · subst hj0
          obtain rfl : z = -1 := by omega
          have CS : Hid _ := Lib.hid (Tryz.Builder_String_any W.heap.size W.heap.size ((Dc.digs (Dc.valB n)).map UInt8.ofNat) wr (by rw [byteCells_u8 _ (digs_lt _)]; have := hbl.out; rwa [List.drop_zero] at this) hsw)
          clear hz hj hne hbl
          go_wp2_with (go_at_call 73; refine (CS.out).mono ?_; rintro e w3 ⟨rfl, hb3⟩)
          go_ret
          exact ⟨⟨_, rfl, bts_digs _⟩, hB.trans (hb3.mono (by have := HSZ.out; omega))⟩
        · obtain ⟨i, rfl⟩ : ∃ i, j = i + 1 := ⟨j - 1, by omega⟩
          obtain rfl : z = (i : Int) := by omega
          have hi' : i < 24 := by omega
          have i0 : (0 : Int) ≤ (i : Int) := by omega
          have i1 : (i : Int) < 24 := by omega
          obtain ⟨y, hy⟩ : ∃ y, n.getD i 0 = y := ⟨_, rfl⟩
          have hyl : y < 1000000000 := by rw [← hy]; exact HN.out.at i
          have c3 := hrr.cell hi'
          rw [hy] at c3
          have hnx := drop_next HN.out hi' (by have := hne.out; omega)
          have hll := digs_low216 HN.out (i + 1) (by omega)
          rw [hy] at hnx
          obtain ⟨L, hL⟩ : ∃ L, Dc.digs (Dc.valB (n.drop (i + 1))) = L := ⟨_, rfl⟩
          rw [hL] at hnx hbl hll
          have HNX : Hid _ := Lib.hid hnx
          have CF2 : Hid _ := Lib.hid (fuint_any y (by omega) wr (HP.out.keep hB))
          clear hy hL hz hj0 hne hnx
          go_wp2_with (first
            | (go_at_call 79; refine (CF2.out).mono ?_; rintro e w4 ⟨⟨t2, rfl, ht2⟩, hb4⟩; have ht2l : t2.size ≤ 9 := (by rw [← bts_length, ht2]; exact (Dc.digs_length (by decide)).2 hyl); obtain ⟨c, hc⟩ : ∃ c : Nat, c + t2.size = 9 := ⟨9 - t2.size, by omega⟩; have hci : (9 : Int) - (t2.size : Int) = (c : Int) := (by omega); have HT2 : Hid _ := Lib.hid ht2; have HC : Hid _ := Lib.hid hc; clear ht2 hc; have B4 := hB.trans (hb4.mono hB.size); have S4 : W.heap.size ≤ w4.heap.size := Nat.le_trans hsw hb4.size; have R5 := hrr.keep hb4; have bl4 := Lib.hid (builder_below hbl.out hb4))
            | (go_at_call 44; refine (repeat_zeros c (by have := HC.out; omega) _).mono ?_; rintro e w5 ⟨⟨r, rfl, hrz⟩, hb5⟩; have HRZ : Hid _ := Lib.hid hrz; have hrl : r.size ≤ 9 := (by rw [← bts_length, hrz, List.length_replicate]; have := HC.out; omega); clear hrz; have B5 := B4.trans (hb5.mono B4.size); have S5 : W.heap.size ≤ w5.heap.size := Nat.le_trans S4 hb5.size; have R6 := R5.keep hb5; have bl5 := Lib.hid (builder_below bl4.out hb5); obtain ⟨Y, hY⟩ : ∃ Y, r ++ t2 = Y := ⟨_, rfl⟩; have hYb : Hid (bts Y = Dc.pad 9 y) := Lib.hid (by rw [← hY, str_add, HRZ.out, HT2.out, Dc.pad]; have h1 := HC.out; rw [← bts_length, HT2.out] at h1; rw [show 9 - (Dc.digs y).length = c by omega]); have hYl : Y.size ≤ 18 := (by rw [← bts_length, ← hY, str_add, List.length_append, bts_length, bts_length]; omega))
            | (go_at_call 71; refine (writeString_any W.heap.size W.heap.size _ Y _ bl5.out (by rw [u8s_length]; omega) S5).mono ?_; rintro e w6 ⟨rfl, hbl6, hb6⟩; have B6 := B5.trans (hb6.mono (by have := HSZ.out; omega)); have R7 := R6.keepB hb6 (by have := HSZ.out; omega); have S6 : W.heap.size ≤ w6.heap.size := Nat.le_trans S5 hb6.size; have BL6 : Hid (Lib.IsBuilder 80 5 W.heap.size W.heap.size (u8s (Dc.digs (Dc.valB (n.drop i)))) w6) := Lib.hid (by rw [HNX.out.1, ← hYb.out, u8s_append, ← strCells_bts]; exact .inr hbl6); clear hbl6))
          go_roundw
          case rel => exact ⟨i, _, by omega, rfl, rfl, Lib.hid (Or.inr HNX.out.2), BL6, R7, S6, B6⟩
          case measure => simp [intOf]
    · by_cases hx0 : x = 0
      · obtain ⟨j, rfl⟩ : ∃ j, k = j + 1 := ⟨k - 1, by omega⟩
        have hv2 : Hid (Dc.valB n = Dc.valB (n.take (j + 1))) := Lib.hid (by rw [hv.out, Dc.valB_take (by rw [HN.out.len]; exact hk'), HX.out, hx0, Nat.mul_zero, Nat.add_zero])
        subst hx0
        clear hv hk0
        go_wp2
        go_round
        case rel => exact ⟨j, by omega, by simp, hv2⟩
        case measure => simp [intOf]
      · have HK : Hid (k = 0 ∨ x ≠ 0) := Lib.hid (Or.inr hx0)
        have d2 : ((x : Int) == 0) = false := beq_no hx0
        clear hx0
        have hr2 : Row24 (W.alloc (.cells #[.pointer none, .slice none 0 0] 80)) w.heap.size n := hr.old _
        have c2 := hr2.cell hk'
        have bl0 : Lib.IsBuilder 80 5 W.heap.size W.heap.size (u8s []) (W.alloc (.cells #[.pointer none, .slice none 0 0] 80)) := .inl ⟨Nat.le_refl _, _, heap_alloc_last W _, ⟨rfl, .inl ⟨rfl, rfl⟩⟩, by simp [Value.ownBlock]⟩
        have bb0 : Below w.heap.size w (W.alloc (.cells #[.pointer none, .slice none 0 0] 80)) := HB0.out.alloc HB0.out.size _
        have bs0 : W.heap.size ≤ (W.alloc (.cells #[.pointer none, .slice none 0 0] 80)).heap.size := by rw [show (W.alloc (.cells #[.pointer none, .slice none 0 0] 80)).heap.size = W.heap.size + 1 from Array.size_push _]; omega
        rw [HX.out] at c2
        have CF : Hid _ := Lib.hid (fuint_any x (by omega) _ (HP.out.keep bb0))
        have R2 : Hid _ := Lib.hid hr2
        have BL0 : Hid _ := Lib.hid bl0
        have BB0 : Hid _ := Lib.hid bb0
        have BS0 : Hid _ := Lib.hid bs0
        have hdk : Hid (Dc.valB (n.drop k) = x) := Lib.hid (by rw [drop_top HN.out hk' hv.out, HX.out])
        clear hr2 bl0 bb0 bs0 hv
        go_wp2_with (first
          | (go_at_call 79; refine (CF.out).mono ?_; rintro e w1 ⟨⟨t, rfl, ht⟩, hb1⟩; have HT : Hid _ := Lib.hid ht; have htl : t.size ≤ 216 := (by rw [← bts_length, ht, ← hdk.out]; exact digs_low216 HN.out k (by omega)); clear ht; have B1 := BB0.out.trans (hb1.mono BB0.out.size); have S1 : W.heap.size ≤ w1.heap.size := Nat.le_trans BS0.out hb1.size; have R3 := R2.out.keep hb1; have bl1 := builder_below BL0.out hb1)
          | (go_at_call 71; refine (writeString_any W.heap.size W.heap.size _ t _ bl1 (by simp [u8s]; omega) S1).mono ?_; rintro e w2 ⟨rfl, hbl2, hb2⟩; have B2 := B1.trans (hb2.mono (by have := HSZ.out; omega)); have R4 := R3.keepB hb2 (by have := HSZ.out; omega); have S2 : W.heap.size ≤ w2.heap.size := Nat.le_trans S1 hb2.size; have BL2 : Hid (Lib.IsBuilder 80 5 W.heap.size W.heap.size (u8s (Dc.digs (Dc.valB (n.drop k)))) w2) := Lib.hid (by rw [hdk.out, ← HT.out]; have h := hbl2; rw [strCells_bts] at h; exact .inr h); clear hbl2))
        go_loopw [3] (fun i wr => ∃ (j : Nat) (z : Int), j ≤ 23 ∧ z = (j : Int) - 1 ∧ i = .int .i64 z ∧ Hid (j = 0 ∨ Dc.valB (n.drop j) ≠ 0) ∧ Hid (Lib.IsBuilder 80 5 W.heap.size W.heap.size (u8s (Dc.digs (Dc.valB (n.drop j)))) wr) ∧ Row24 wr w.heap.size n ∧ W.heap.size ≤ wr.heap.size ∧ Below w.heap.size w wr) (fun i _ => (intOf i + 1).toNat)
        case atStart => exact ⟨k, _, hk, rfl, rfl, Lib.hid (by rw [hdk.out]; exact HK.out), BL2, R4, S2, B2⟩
        case round =>
          clear R3 R4 S1 S2 B1 B2 BL2 c1 c2
          obtain ⟨j, z, hj, hz, rfl, hne, hbl, hrr, hsw, hB⟩ := hrel
          by_cases hj0 : j = 0
          · subst hj0
            obtain rfl : z = -1 := by omega
            have CS : Hid _ := Lib.hid (Tryz.Builder_String_any W.heap.size W.heap.size ((Dc.digs (Dc.valB n)).map UInt8.ofNat) wr (by rw [byteCells_u8 _ (digs_lt _)]; have := hbl.out; rwa [List.drop_zero] at this) hsw)
            clear hz hj hne hbl
            go_wp2_with (go_at_call 73; refine (CS.out).mono ?_; rintro e w3 ⟨rfl, hb3⟩)
            go_ret
            exact ⟨⟨_, rfl, bts_digs _⟩, hB.trans (hb3.mono (by have := HSZ.out; omega))⟩
          · obtain ⟨i, rfl⟩ : ∃ i, j = i + 1 := ⟨j - 1, by omega⟩
            obtain rfl : z = (i : Int) := by omega
            have hi' : i < 24 := by omega
            have i0 : (0 : Int) ≤ (i : Int) := by omega
            have i1 : (i : Int) < 24 := by omega
            obtain ⟨y, hy⟩ : ∃ y, n.getD i 0 = y := ⟨_, rfl⟩
            have hyl : y < 1000000000 := by rw [← hy]; exact HN.out.at i
            have c3 := hrr.cell hi'
            rw [hy] at c3
            have hnx := drop_next HN.out hi' (by have := hne.out; omega)
            have hll := digs_low216 HN.out (i + 1) (by omega)
            rw [hy] at hnx
            obtain ⟨L, hL⟩ : ∃ L, Dc.digs (Dc.valB (n.drop (i + 1))) = L := ⟨_, rfl⟩
            rw [hL] at hnx hbl hll
            have HNX : Hid _ := Lib.hid hnx
            have CF2 : Hid _ := Lib.hid (fuint_any y (by omega) wr (HP.out.keep hB))
            clear hy hL hz hj0 hne hnx
            go_wp2_with (first
              | (go_at_call 79; refine (CF2.out).mono ?_; rintro e w4 ⟨⟨t2, rfl, ht2⟩, hb4⟩; have ht2l : t2.size ≤ 9 := (by rw [← bts_length, ht2]; exact (Dc.digs_length (by decide)).2 hyl); obtain ⟨c, hc⟩ : ∃ c : Nat, c + t2.size = 9 := ⟨9 - t2.size, by omega⟩; have hci : (9 : Int) - (t2.size : Int) = (c : Int) := (by omega); have HT2 : Hid _ := Lib.hid ht2; have HC : Hid _ := Lib.hid hc; clear ht2 hc; have B4 := hB.trans (hb4.mono hB.size); have S4 : W.heap.size ≤ w4.heap.size := Nat.le_trans hsw hb4.size; have R5 := hrr.keep hb4; have bl4 := Lib.hid (builder_below hbl.out hb4))
              | (go_at_call 44; refine (repeat_zeros c (by have := HC.out; omega) _).mono ?_; rintro e w5 ⟨⟨r, rfl, hrz⟩, hb5⟩; have HRZ : Hid _ := Lib.hid hrz; have hrl : r.size ≤ 9 := (by rw [← bts_length, hrz, List.length_replicate]; have := HC.out; omega); clear hrz; have B5 := B4.trans (hb5.mono B4.size); have S5 : W.heap.size ≤ w5.heap.size := Nat.le_trans S4 hb5.size; have R6 := R5.keep hb5; have bl5 := Lib.hid (builder_below bl4.out hb5); obtain ⟨Y, hY⟩ : ∃ Y, r ++ t2 = Y := ⟨_, rfl⟩; have hYb : Hid (bts Y = Dc.pad 9 y) := Lib.hid (by rw [← hY, str_add, HRZ.out, HT2.out, Dc.pad]; have h1 := HC.out; rw [← bts_length, HT2.out] at h1; rw [show 9 - (Dc.digs y).length = c by omega]); have hYl : Y.size ≤ 18 := (by rw [← bts_length, ← hY, str_add, List.length_append, bts_length, bts_length]; omega))
              | (go_at_call 71; refine (writeString_any W.heap.size W.heap.size _ Y _ bl5.out (by rw [u8s_length]; omega) S5).mono ?_; rintro e w6 ⟨rfl, hbl6, hb6⟩; have B6 := B5.trans (hb6.mono (by have := HSZ.out; omega)); have R7 := R6.keepB hb6 (by have := HSZ.out; omega); have S6 : W.heap.size ≤ w6.heap.size := Nat.le_trans S5 hb6.size; have BL6 : Hid (Lib.IsBuilder 80 5 W.heap.size W.heap.size (u8s (Dc.digs (Dc.valB (n.drop i)))) w6) := Lib.hid (by rw [HNX.out.1, ← hYb.out, u8s_append, ← strCells_bts]; exact .inr hbl6); clear hbl6))
            go_roundw
            case rel => exact ⟨i, _, by omega, rfl, rfl, Lib.hid (Or.inr HNX.out.2), BL6, R7, S6, B6⟩
            case measure => simp [intOf]
end Go.Proofs.YthmmjihldkjhhaaGreatDoor
