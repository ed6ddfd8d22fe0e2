/-
  Part 10 of the proof: what functions return, and plain facts (Ponly Pdigits Pscaled). Conditions: each theorem names its own.
-/
import Derived.Test.YthoojcdjjecogaaGreatDoorG04
import Derived.Test.YthoojcdjjecogaaGreatDoorG09
import Derived.Test.YthoojcdjjecogaaGreatDoorG06
import Derived.Test.YthoojcdjjecogaaGreatDoorG07
import Derived.Test.YthoojcdjjecogaaGreatDoorG03
set_option maxRecDepth 1000000
set_option maxHeartbeats 16000000
namespace Go.Proofs.YthoojcdjjecogaaGreatDoor
open Go Go.RowKit

theorem ponly_yes (s : ByteArray) (hs : s.size <= 9223372036854775807) (hd : (bts s).all Dc.dig = true) (hne : s.size ≠ 0) (w : World) : Calls Tryz.prog 70 #[.string s] w fun e w' => e = .returned (.bool true) /\ w = w' := by
 have HD : Hid _ := Lib.hid hd
 have he := isEmpty_no (Nat.pos_of_ne_zero hne)
 clear hd hne
 go_enter Tryz.func70, Tryz.ntmps70
 go_wp2
 go_loop [6] (fun i => ∃ k : Nat, k <= s.size /\ i = .int .i64 k) (fun i => s.size - (intOf i).toNat)
 case atStart => exact ⟨0, Nat.zero_le _, rfl⟩
 case round =>
  obtain ⟨k, hk, rfl⟩ := hrel
  by_cases hlt : k < s.size
  ·obtain ⟨c, hc⟩ : ∃ c, (s[k]'hlt).toNat = c := ⟨_, rfl⟩
   have hm := Dc.dig_iff.1 (List.all_eq_true.1 HD.out c (by rw [<- hc, <- bts_get s k hlt]; exact List.getElem_mem _))
   have d1 : decide ((c : Int) < 48) = false := decide_eq_false (by omega)
   have d2 : decide (57 < (c : Int)) = false := decide_eq_false (by omega)
   clear hm
   go_wp2
   go_round
   case rel => exact ⟨k + 1, by omega, by simp⟩
   case measure => simp [intOf]; omega
  ·go_wp2
   go_ret
   exact ⟨rfl, rfl⟩
theorem ponly_no (s : ByteArray) (hs : s.size <= 9223372036854775807) (hd : (bts s).all Dc.dig = false) (w : World) : Calls Tryz.prog 70 #[.string s] w fun e w' => e = .returned (.bool false) /\ w = w' := by
 have HD : Hid _ := Lib.hid hd
 clear hd
 go_enter Tryz.func70, Tryz.ntmps70
 go_wp2
 go_loop [6] (fun i => ∃ k : Nat, k <= s.size /\ i = .int .i64 k /\ Hid (((bts s).take k).all Dc.dig = true)) (fun i => s.size - (intOf i).toNat)
 case atStart => exact ⟨0, Nat.zero_le _, rfl, Lib.hid rfl⟩
 case round =>
  obtain ⟨k, hk, rfl, hall⟩ := hrel
  by_cases hlt : k < s.size
  ·obtain ⟨c, hc⟩ : ∃ c, (s[k]'hlt).toNat = c := ⟨_, rfl⟩
   by_cases hm : 48 <= c /\ c <= 57
   ·have hall2 : Hid (((bts s).take (k + 1)).all Dc.dig = true) := Lib.hid (by rw [bts_take_succ s k hlt, List.all_append, hall.out, hc]; simp [Dc.dig, hm.1, hm.2])
    have d1 : decide ((c : Int) < 48) = false := decide_eq_false (by omega)
    have d2 : decide (57 < (c : Int)) = false := decide_eq_false (by omega)
    clear hm hall
    go_wp2
    go_round
    case rel => exact ⟨k + 1, by omega, by simp, hall2⟩
    case measure => simp [intOf]; omega
   ·by_cases h1 : c < 48
    ·have d1 : decide ((c : Int) < 48) = true := decide_eq_true (by omega)
     clear hm h1 hall
     go_wp2
     go_ret
     exact ⟨rfl, rfl⟩
    ·have d1 : decide ((c : Int) < 48) = false := decide_eq_false (by omega)
     have d2 : decide (57 < (c : Int)) = true := decide_eq_true (by omega)
     clear hm h1 hall
     go_wp2
     go_ret
     exact ⟨rfl, rfl⟩
  ·exfalso
   have hke : (bts s).take k = bts s := List.take_of_length_le (by rw [bts_length]; omega)
   have := hall.out
   rw [hke, HD.out] at this; cases this
theorem ponly_nil (s : ByteArray) (hs : s.size = 0) (w : World) : Calls Tryz.prog 70 #[.string s] w fun e w' => e = .returned (.bool false) /\ w = w' := by
 have he := isEmpty_yes hs
 go_enter Tryz.func70, Tryz.ntmps70
 go_wp2
 refine wp_loop_rounds 1 ?_
 rw [rounds_succ]
 go_wp2
 go_ret
 exact ⟨rfl, rfl⟩
theorem ponly_any (s : ByteArray) (hs : s.size <= 9223372036854775807) (w : World) : Calls Tryz.prog 70 #[.string s] w fun e w' => e = .returned (.bool (onlyB s)) /\ w = w' := by
 unfold onlyB
 by_cases h0 : s.size = 0
 ·rw [decide_eq_false (by omega : ¬ s.size ≠ 0), Bool.and_false]; exact ponly_nil s h0 w
 ·rw [decide_eq_true (by omega : s.size ≠ 0), Bool.and_true]
  cases hd : (bts s).all Dc.dig with
  | true => exact ponly_yes s hs hd h0 w
  | false => exact ponly_no s hs hd w


theorem Pow.keep {w w' : World} (h : Pow w) (hb : Below w.heap.size w w') : Pow w' := by
 unfold Pow Lib.TabIs World.var? at *
 cases hg : Tryz.prog.globalNamed "internal/strconv.uint64pow10" with
 | none => simp [hg] at h
 | some g =>
  simp only [hg, Option.bind_some] at h ⊢
  have hlt : g < w.heap.size := by
   rcases Nat.lt_or_ge g w.heap.size with h' | h'
   ·exact h'
   ·rw [Array.getElem?_eq_none h'] at h; simp at h
  rw [hb.block g hlt]
  exact h
theorem Row24.keepB {W W' : World} {g B : Nat} {l : List Nat} (h : Row24 W g l) (hb : Below B W W') (hg : g < B) : Row24 W' g l := ⟨(hb.block g hg).trans h.row, h.len⟩
theorem repeat_zeros (c : Nat) (hc : c <= 1000) (w : World) : Calls Tryz.prog 99 #[.string ⟨#[48]⟩, .int .i64 (c : Int)] w fun e w' => (∃ r : ByteArray, e = .returned (.string r) /\ bts r = List.replicate c 48) /\ Below w.heap.size w w' := by
 refine (Tryz.strings_Repeat ⟨#[48]⟩ c w (by omega) (by show 1 * c <= _; omega)).mono ?_
 rintro e w' ⟨rfl, hb⟩
 refine ⟨⟨_, rfl, ?_⟩, hb⟩
 have e1 : Lib.repeatL (List.replicate 1 (48 : UInt8)) c = List.replicate (c * 1) 48 := Lib.repeatL_replicate 48 1 c
 show (Lib.repeatL (List.replicate 1 (48 : UInt8)) c).map UInt8.toNat = _
 rw [e1, List.map_replicate, Nat.mul_one]; rfl
theorem strCells_bts (s : ByteArray) : Lib.strCells s = u8s (bts s) := by
 have := strCells_str (bts s) (bts_all s)
 rwa [str_bts] at this
theorem top_pow : top = 10 ^ 216 := by unfold top; decide
theorem drop_low {n : List Nat} (h : Num n) (j : Nat) (hj : j <= 24) : Dc.valB (n.drop j) < top := by
 have h1 := Dc.valB_split n j (by rw [h.len]; exact hj)
 have h2 := valB_low h
 have h3 : 0 < 1000000000 ^ j := Nat.pow_pos (by decide)
 have h4 : 1 * Dc.valB (n.drop j) <= 1000000000 ^ j * Dc.valB (n.drop j) := Nat.mul_le_mul_right _ h3
 omega
theorem digs_low216 {n : List Nat} (h : Num n) (j : Nat) (hj : j <= 24) : (Dc.digs (Dc.valB (n.drop j))).length <= 216 := (Dc.digs_length (by decide)).2 (by rw [<- top_pow]; exact drop_low h j hj)
theorem drop_top {n : List Nat} {k : Nat} (h : Num n) (hk : k < 24) (hv : Dc.valB n = Dc.valB (n.take (k + 1))) : Dc.valB (n.drop k) = n.getD k 0 := by
 have h1 := Dc.valB_split n k (by rw [h.len]; omega)
 rw [hv, Dc.valB_take (by rw [h.len]; exact hk)] at h1
 exact (Nat.eq_of_mul_eq_mul_left (Nat.pow_pos (by decide)) (Nat.add_left_cancel h1)).symm
theorem drop_next {n : List Nat} {j : Nat} (h : Num n) (hj : j < 24) (hne : Dc.valB (n.drop (j + 1)) ≠ 0) : Dc.digs (Dc.valB (n.drop j)) = Dc.digs (Dc.valB (n.drop (j + 1))) ++ Dc.pad 9 (n.getD j 0) /\ Dc.valB (n.drop j) ≠ 0 := by
 have e : Dc.valB (n.drop j) = Dc.valB (n.drop (j + 1)) * 10 ^ 9 + n.getD j 0 := by
  rw [Dc.drop_getD (by rw [h.len]; exact hj), Dc.valB, show (10 : Nat) ^ 9 = 1000000000 from rfl]
  omega
 refine ⟨by rw [e]; exact Dc.digs_pad hne (by decide) (h.at j), ?_⟩
 rw [e]
 have : 0 < Dc.valB (n.drop (j + 1)) * 10 ^ 9 := Nat.mul_pos (Nat.pos_of_ne_zero hne) (Nat.pow_pos (by decide))
 omega

theorem pdigits_any (n : List Nat) (hn : Num n) (w : World) (hP : Pow w) : Calls Tryz.prog 172 #[.agg (numV n)] w fun e w' => (∃ t : ByteArray, e = .returned (.string t) /\ bts t = Dc.digs (Dc.valB n)) /\ Below w.heap.size w w' := by
 have HN : Hid _ := Lib.hid hn
 have HP : Hid _ := Lib.hid hP
 have hr := Row24.new w n hn.len
 have hb0 : Below w.heap.size w (w.alloc (.cells (numV n) 117)) := (Below.refl _ w).alloc (Nat.le_refl _) _
 have hsz : (w.alloc (.cells (numV n) 117)).heap.size = w.heap.size + 1 := Array.size_push _
 obtain ⟨W, hW⟩ : ∃ W, w.alloc (.cells (numV n) 117) = W := ⟨_, rfl⟩
 rw [hW] at hr hb0 hsz
 have HB0 : Hid _ := Lib.hid hb0
 have HSZ : Hid _ := Lib.hid hsz
 clear hn hP hb0 hsz
 go_enter Tryz.func172, Tryz.ntmps172
 go_wp2
 go_loop [3] (fun i => ∃ k : Nat, k <= 23 /\ i = .int .i64 (k : Int) /\ Hid (Dc.valB n = Dc.valB (n.take (k + 1)))) (fun i => (intOf i).toNat)
 case atStart => exact ⟨23, Nat.le_refl _, rfl, Lib.hid (by rw [List.take_of_length_le (by rw [HN.out.len]; exact Nat.le_refl _)])⟩
 case round =>
  obtain ⟨k, hk, rfl, hv⟩ := hrel
  have hk' : k < 24 := by omega
  have k0 : (0 : Int) <= (k : Int) := by omega
  have k1 : (k : Int) < 24 := by omega
  obtain ⟨x, hx⟩ : ∃ x, n.getD k 0 = x := ⟨_, rfl⟩
  have hxl : x < 1000000000 := by rw [<- hx]; exact HN.out.at k
  have c1 := hr.cell hk'
  rw [hx] at c1
  have HX : Hid _ := Lib.hid hx
  clear hx
  by_cases hk0 : k = 0
  ·have d1 : decide (0 < k) = false := decide_eq_false (by omega)
   have HK : Hid (k = 0 \/ x ≠ 0) := Lib.hid (Or.inl hk0)
   clear hk0
   have hr2 : Row24 (W.alloc (.cells #[.pointer none, .slice none 0 0] 99)) w.heap.size n := hr.old _
   have c2 := hr2.cell hk'
   have bl0 : Lib.IsBuilder 99 5 W.heap.size W.heap.size (u8s []) (W.alloc (.cells #[.pointer none, .slice none 0 0] 99)) := .inl ⟨Nat.le_refl _, _, heap_alloc_last W _, ⟨rfl, .inl ⟨rfl, rfl⟩⟩, by simp [Value.ownBlock]⟩
   have bb0 : Below w.heap.size w (W.alloc (.cells #[.pointer none, .slice none 0 0] 99)) := HB0.out.alloc HB0.out.size _
   have bs0 : W.heap.size <= (W.alloc (.cells #[.pointer none, .slice none 0 0] 99)).heap.size := by rw [show (W.alloc (.cells #[.pointer none, .slice none 0 0] 99)).heap.size = W.heap.size + 1 from Array.size_push _]; omega
   rw [HX.out] at c2
   have CF : Hid _ := Lib.hid (fuint_any x (by omega) _ (HP.out.keep bb0))
   have R2 : Hid _ := Lib.hid hr2
   have BL0 : Hid _ := Lib.hid bl0
   have BB0 : Hid _ := Lib.hid bb0
   have BS0 : Hid _ := Lib.hid bs0
   have hdk : Hid (Dc.valB (n.drop k) = x) := Lib.hid (by rw [drop_top HN.out hk' hv.out, HX.out])
   clear hr2 bl0 bb0 bs0 hv
   go_wp2_with (first
    | (go_at_call 192; refine (CF.out).mono ?_; rintro e w1 ⟨⟨t, rfl, ht⟩, hb1⟩; have HT : Hid _ := Lib.hid ht; have htl : t.size <= 216 := (by rw [<- bts_length, ht, <- hdk.out]; exact digs_low216 HN.out k (by omega)); clear ht; have B1 := BB0.out.trans (hb1.mono BB0.out.size); have S1 : W.heap.size <= w1.heap.size := Nat.le_trans BS0.out hb1.size; have R3 := R2.out.keep hb1; have bl1 := builder_below BL0.out hb1)
    | (go_at_call 95; refine (writeString_any W.heap.size W.heap.size _ t _ bl1 (by simp [u8s]; omega) S1).mono ?_; rintro e w2 ⟨rfl, hbl2, hb2⟩; have B2 := B1.trans (hb2.mono (by have := HSZ.out; omega)); have R4 := R3.keepB hb2 (by have := HSZ.out; omega); have S2 : W.heap.size <= w2.heap.size := Nat.le_trans S1 hb2.size; have BL2 : Hid (Lib.IsBuilder 99 5 W.heap.size W.heap.size (u8s (Dc.digs (Dc.valB (n.drop k)))) w2) := Lib.hid (by rw [hdk.out, <- HT.out]; have h := hbl2; rw [strCells_bts] at h; exact .inr h); clear hbl2))
   go_loopw [3] (fun i wr => ∃ (j : Nat) (z : Int), j <= 23 /\ z = (j : Int) - 1 /\ i = .int .i64 z /\ Hid (j = 0 \/ Dc.valB (n.drop j) ≠ 0) /\ Hid (Lib.IsBuilder 99 5 W.heap.size W.heap.size (u8s (Dc.digs (Dc.valB (n.drop j)))) wr) /\ Row24 wr w.heap.size n /\ W.heap.size <= wr.heap.size /\ Below w.heap.size w wr) (fun i _ => (intOf i + 1).toNat)
   case atStart => exact ⟨k, _, hk, rfl, rfl, Lib.hid (by rw [hdk.out]; exact HK.out), BL2, R4, S2, B2⟩
   case round =>
    clear R3 R4 S1 S2 B1 B2 BL2 c1 c2
    obtain ⟨j, z, hj, hz, rfl, hne, hbl, hrr, hsw, hB⟩ := hrel
    by_cases hj0 : j = 0
    ·subst hj0
     obtain rfl : z = -1 := by omega
     have CS : Hid _ := Lib.hid (Tryz.Builder_String_any W.heap.size W.heap.size ((Dc.digs (Dc.valB n)).map UInt8.ofNat) wr (by rw [byteCells_u8 _ (digs_lt _)]; have := hbl.out; rwa [List.drop_zero] at this) hsw)
     clear hz hj hne hbl
     go_wp2_with (go_at_call 68; refine (CS.out).mono ?_; rintro e w3 ⟨rfl, hb3⟩)
     go_ret
     exact ⟨⟨_, rfl, bts_digs _⟩, hB.trans (hb3.mono (by have := HSZ.out; omega))⟩
    ·obtain ⟨i, rfl⟩ : ∃ i, j = i + 1 := ⟨j - 1, by omega⟩
     obtain rfl : z = (i : Int) := by omega
     have hi' : i < 24 := by omega
     have i0 : (0 : Int) <= (i : Int) := by omega
     have i1 : (i : Int) < 24 := by omega
     obtain ⟨y, hy⟩ : ∃ y, n.getD i 0 = y := ⟨_, rfl⟩
     have hyl : y < 1000000000 := by rw [<- hy]; exact HN.out.at i
     have c3 := hrr.cell hi'
     rw [hy] at c3
     have hnx := drop_next HN.out hi' (by have := hne.out; omega)
     have hll := digs_low216 HN.out (i + 1) (by omega)
     rw [hy] at hnx
     obtain ⟨L, hL⟩ : ∃ L, Dc.digs (Dc.valB (n.drop (i + 1))) = L := ⟨_, rfl⟩
     rw [hL] at hnx hbl hll
     have HNX : Hid _ := Lib.hid hnx
     have CF2 : Hid _ := Lib.hid (fuint_any y (by omega) wr (HP.out.keep hB))
     clear hy hL hz hj0 hne hnx
     go_wp2_with (first
      | (go_at_call 192; refine (CF2.out).mono ?_; rintro e w4 ⟨⟨t2, rfl, ht2⟩, hb4⟩; have ht2l : t2.size <= 9 := (by rw [<- bts_length, ht2]; exact (Dc.digs_length (by decide)).2 hyl); obtain ⟨c, hc⟩ : ∃ c : Nat, c + t2.size = 9 := ⟨9 - t2.size, by omega⟩; have hci : (9 : Int) - (t2.size : Int) = (c : Int) := (by omega); have HT2 : Hid _ := Lib.hid ht2; have HC : Hid _ := Lib.hid hc; clear ht2 hc; have B4 := hB.trans (hb4.mono hB.size); have S4 : W.heap.size <= w4.heap.size := Nat.le_trans hsw hb4.size; have R5 := hrr.keep hb4; have bl4 := Lib.hid (builder_below hbl.out hb4))
      | (go_at_call 99; refine (repeat_zeros c (by have := HC.out; omega) _).mono ?_; rintro e w5 ⟨⟨r, rfl, hrz⟩, hb5⟩; have HRZ : Hid _ := Lib.hid hrz; have hrl : r.size <= 9 := (by rw [<- bts_length, hrz, List.length_replicate]; have := HC.out; omega); clear hrz; have B5 := B4.trans (hb5.mono B4.size); have S5 : W.heap.size <= w5.heap.size := Nat.le_trans S4 hb5.size; have R6 := R5.keep hb5; have bl5 := Lib.hid (builder_below bl4.out hb5); obtain ⟨Y, hY⟩ : ∃ Y, r ++ t2 = Y := ⟨_, rfl⟩; have hYb : Hid (bts Y = Dc.pad 9 y) := Lib.hid (by rw [<- hY, str_add, HRZ.out, HT2.out, Dc.pad]; have h1 := HC.out; rw [<- bts_length, HT2.out] at h1; rw [show 9 - (Dc.digs y).length = c by omega]); have hYl : Y.size <= 18 := (by rw [<- bts_length, <- hY, str_add, List.length_append, bts_length, bts_length]; omega))
      | (go_at_call 95; refine (writeString_any W.heap.size W.heap.size _ Y _ bl5.out (by rw [u8s_length]; omega) S5).mono ?_; rintro e w6 ⟨rfl, hbl6, hb6⟩; have B6 := B5.trans (hb6.mono (by have := HSZ.out; omega)); have R7 := R6.keepB hb6 (by have := HSZ.out; omega); have S6 : W.heap.size <= w6.heap.size := Nat.le_trans S5 hb6.size; have BL6 : Hid (Lib.IsBuilder 99 5 W.heap.size W.heap.size (u8s (Dc.digs (Dc.valB (n.drop i)))) w6) := Lib.hid (by rw [HNX.out.1, <- hYb.out, u8s_append, <- strCells_bts]; exact .inr hbl6); clear hbl6))
     go_roundw
     case rel => exact ⟨i, _, by omega, rfl, rfl, Lib.hid (Or.inr HNX.out.2), BL6, R7, S6, B6⟩
     case measure => simp [intOf]
  ·by_cases hx0 : x = 0
   ·obtain ⟨j, rfl⟩ : ∃ j, k = j + 1 := ⟨k - 1, by omega⟩
    have hv2 : Hid (Dc.valB n = Dc.valB (n.take (j + 1))) := Lib.hid (by rw [hv.out, Dc.valB_take (by rw [HN.out.len]; exact hk'), HX.out, hx0, Nat.mul_zero, Nat.add_zero])
    subst hx0
    clear hv hk0
    go_wp2
    go_round
    case rel => exact ⟨j, by omega, by simp, hv2⟩
    case measure => simp [intOf]
   ·have HK : Hid (k = 0 \/ x ≠ 0) := Lib.hid (Or.inr hx0)
    have d2 : ((x : Int) == 0) = false := beq_no hx0
    clear hx0
    have hr2 : Row24 (W.alloc (.cells #[.pointer none, .slice none 0 0] 99)) w.heap.size n := hr.old _
    have c2 := hr2.cell hk'
    have bl0 : Lib.IsBuilder 99 5 W.heap.size W.heap.size (u8s []) (W.alloc (.cells #[.pointer none, .slice none 0 0] 99)) := .inl ⟨Nat.le_refl _, _, heap_alloc_last W _, ⟨rfl, .inl ⟨rfl, rfl⟩⟩, by simp [Value.ownBlock]⟩
    have bb0 : Below w.heap.size w (W.alloc (.cells #[.pointer none, .slice none 0 0] 99)) := HB0.out.alloc HB0.out.size _
    have bs0 : W.heap.size <= (W.alloc (.cells #[.pointer none, .slice none 0 0] 99)).heap.size := by rw [show (W.alloc (.cells #[.pointer none, .slice none 0 0] 99)).heap.size = W.heap.size + 1 from Array.size_push _]; omega
    rw [HX.out] at c2
    have CF : Hid _ := Lib.hid (fuint_any x (by omega) _ (HP.out.keep bb0))
    have R2 : Hid _ := Lib.hid hr2
    have BL0 : Hid _ := Lib.hid bl0
    have BB0 : Hid _ := Lib.hid bb0
    have BS0 : Hid _ := Lib.hid bs0
    have hdk : Hid (Dc.valB (n.drop k) = x) := Lib.hid (by rw [drop_top HN.out hk' hv.out, HX.out])
    clear hr2 bl0 bb0 bs0 hv
    go_wp2_with (first
     | (go_at_call 192; refine (CF.out).mono ?_; rintro e w1 ⟨⟨t, rfl, ht⟩, hb1⟩; have HT : Hid _ := Lib.hid ht; have htl : t.size <= 216 := (by rw [<- bts_length, ht, <- hdk.out]; exact digs_low216 HN.out k (by omega)); clear ht; have B1 := BB0.out.trans (hb1.mono BB0.out.size); have S1 : W.heap.size <= w1.heap.size := Nat.le_trans BS0.out hb1.size; have R3 := R2.out.keep hb1; have bl1 := builder_below BL0.out hb1)
     | (go_at_call 95; refine (writeString_any W.heap.size W.heap.size _ t _ bl1 (by simp [u8s]; omega) S1).mono ?_; rintro e w2 ⟨rfl, hbl2, hb2⟩; have B2 := B1.trans (hb2.mono (by have := HSZ.out; omega)); have R4 := R3.keepB hb2 (by have := HSZ.out; omega); have S2 : W.heap.size <= w2.heap.size := Nat.le_trans S1 hb2.size; have BL2 : Hid (Lib.IsBuilder 99 5 W.heap.size W.heap.size (u8s (Dc.digs (Dc.valB (n.drop k)))) w2) := Lib.hid (by rw [hdk.out, <- HT.out]; have h := hbl2; rw [strCells_bts] at h; exact .inr h); clear hbl2))
    go_loopw [3] (fun i wr => ∃ (j : Nat) (z : Int), j <= 23 /\ z = (j : Int) - 1 /\ i = .int .i64 z /\ Hid (j = 0 \/ Dc.valB (n.drop j) ≠ 0) /\ Hid (Lib.IsBuilder 99 5 W.heap.size W.heap.size (u8s (Dc.digs (Dc.valB (n.drop j)))) wr) /\ Row24 wr w.heap.size n /\ W.heap.size <= wr.heap.size /\ Below w.heap.size w wr) (fun i _ => (intOf i + 1).toNat)
    case atStart => exact ⟨k, _, hk, rfl, rfl, Lib.hid (by rw [hdk.out]; exact HK.out), BL2, R4, S2, B2⟩
    case round =>
     clear R3 R4 S1 S2 B1 B2 BL2 c1 c2
     obtain ⟨j, z, hj, hz, rfl, hne, hbl, hrr, hsw, hB⟩ := hrel
     by_cases hj0 : j = 0
     ·subst hj0
      obtain rfl : z = -1 := by omega
      have CS : Hid _ := Lib.hid (Tryz.Builder_String_any W.heap.size W.heap.size ((Dc.digs (Dc.valB n)).map UInt8.ofNat) wr (by rw [byteCells_u8 _ (digs_lt _)]; have := hbl.out; rwa [List.drop_zero] at this) hsw)
      clear hz hj hne hbl
      go_wp2_with (go_at_call 68; refine (CS.out).mono ?_; rintro e w3 ⟨rfl, hb3⟩)
      go_ret
      exact ⟨⟨_, rfl, bts_digs _⟩, hB.trans (hb3.mono (by have := HSZ.out; omega))⟩
     ·obtain ⟨i, rfl⟩ : ∃ i, j = i + 1 := ⟨j - 1, by omega⟩
      obtain rfl : z = (i : Int) := by omega
      have hi' : i < 24 := by omega
      have i0 : (0 : Int) <= (i : Int) := by omega
      have i1 : (i : Int) < 24 := by omega
      obtain ⟨y, hy⟩ : ∃ y, n.getD i 0 = y := ⟨_, rfl⟩
      have hyl : y < 1000000000 := by rw [<- hy]; exact HN.out.at i
      have c3 := hrr.cell hi'
      rw [hy] at c3
      have hnx := drop_next HN.out hi' (by have := hne.out; omega)
      have hll := digs_low216 HN.out (i + 1) (by omega)
      rw [hy] at hnx
      obtain ⟨L, hL⟩ : ∃ L, Dc.digs (Dc.valB (n.drop (i + 1))) = L := ⟨_, rfl⟩
      rw [hL] at hnx hbl hll
      have HNX : Hid _ := Lib.hid hnx
      have CF2 : Hid _ := Lib.hid (fuint_any y (by omega) wr (HP.out.keep hB))
      clear hy hL hz hj0 hne hnx
      go_wp2_with (first
       | (go_at_call 192; refine (CF2.out).mono ?_; rintro e w4 ⟨⟨t2, rfl, ht2⟩, hb4⟩; have ht2l : t2.size <= 9 := (by rw [<- bts_length, ht2]; exact (Dc.digs_length (by decide)).2 hyl); obtain ⟨c, hc⟩ : ∃ c : Nat, c + t2.size = 9 := ⟨9 - t2.size, by omega⟩; have hci : (9 : Int) - (t2.size : Int) = (c : Int) := (by omega); have HT2 : Hid _ := Lib.hid ht2; have HC : Hid _ := Lib.hid hc; clear ht2 hc; have B4 := hB.trans (hb4.mono hB.size); have S4 : W.heap.size <= w4.heap.size := Nat.le_trans hsw hb4.size; have R5 := hrr.keep hb4; have bl4 := Lib.hid (builder_below hbl.out hb4))
       | (go_at_call 99; refine (repeat_zeros c (by have := HC.out; omega) _).mono ?_; rintro e w5 ⟨⟨r, rfl, hrz⟩, hb5⟩; have HRZ : Hid _ := Lib.hid hrz; have hrl : r.size <= 9 := (by rw [<- bts_length, hrz, List.length_replicate]; have := HC.out; omega); clear hrz; have B5 := B4.trans (hb5.mono B4.size); have S5 : W.heap.size <= w5.heap.size := Nat.le_trans S4 hb5.size; have R6 := R5.keep hb5; have bl5 := Lib.hid (builder_below bl4.out hb5); obtain ⟨Y, hY⟩ : ∃ Y, r ++ t2 = Y := ⟨_, rfl⟩; have hYb : Hid (bts Y = Dc.pad 9 y) := Lib.hid (by rw [<- hY, str_add, HRZ.out, HT2.out, Dc.pad]; have h1 := HC.out; rw [<- bts_length, HT2.out] at h1; rw [show 9 - (Dc.digs y).length = c by omega]); have hYl : Y.size <= 18 := (by rw [<- bts_length, <- hY, str_add, List.length_append, bts_length, bts_length]; omega))
       | (go_at_call 95; refine (writeString_any W.heap.size W.heap.size _ Y _ bl5.out (by rw [u8s_length]; omega) S5).mono ?_; rintro e w6 ⟨rfl, hbl6, hb6⟩; have B6 := B5.trans (hb6.mono (by have := HSZ.out; omega)); have R7 := R6.keepB hb6 (by have := HSZ.out; omega); have S6 : W.heap.size <= w6.heap.size := Nat.le_trans S5 hb6.size; have BL6 : Hid (Lib.IsBuilder 99 5 W.heap.size W.heap.size (u8s (Dc.digs (Dc.valB (n.drop i)))) w6) := Lib.hid (by rw [HNX.out.1, <- hYb.out, u8s_append, <- strCells_bts]; exact .inr hbl6); clear hbl6))
      go_roundw
      case rel => exact ⟨i, _, by omega, rfl, rfl, Lib.hid (Or.inr HNX.out.2), BL6, R7, S6, B6⟩
      case measure => simp [intOf]

theorem Row24.blk {W : World} {g : Nat} {l : List Nat} (h : Row24 W g l) : Blk W g 117 (numV l) := h.row
theorem Row24.far {W W' : World} {g r : Nat} {l : List Nat} (h : Row24 W g l) (hb : W.grownBy W' (some r)) (hr : g ≠ r) : Row24 W' g l := ⟨Blk.far h.blk hb hr, h.len⟩
theorem agg_num {l : List Nat} (h : l.length = 24) : aggT 117 (numV l).size = true := by rw [numV_size, h]; kernel_rfl
theorem numV_oneL (l : List Nat) : (numV l).toList.all (·.oneCell') = true := by rw [Array.all_toList]; exact numV_one l
theorem zero_num : (Tryz.prog.info? 117).bind (·.zero) = some (.agg (numV (List.replicate 24 0))) := by kernel_rfl
theorem pscaled_any (n : Bool) (s : ByteArray) (T m : Nat) (hs : s.size <= 60) (hd : (bts s).all Dc.dig = true) (hT : T <= m) (hm : m <= 120) (w : World) : Calls Tryz.prog 83 #[.agg #[.bool n, .string s, .int .i64 (T : Int)], .int .i64 (m : Int)] w fun e w' => (∃ O : List Nat, e = .returned (.agg (numV O)) /\ Num O /\ Dc.valB O = Dc.val (bts s) * 10 ^ (m - T)) /\ Below w.heap.size w w' := by
 obtain ⟨c, hc⟩ : ∃ c, m - T = c := ⟨_, rfl⟩
 have hci : IntKind.i64.wrap ((m : Int) - (T : Int)) = (c : Int) := by rw [IntKind.wrap_i64]; omega
 have C1 : Hid _ := Lib.hid (repeat_zeros c (by omega))
 have HD : Hid _ := Lib.hid hd
 have HC : Hid _ := Lib.hid hc
 have hcl : c <= 120 := by omega
 rw [hc]
 clear hd hc
 go_enter Tryz.func83, Tryz.ntmps83
 go_wp2_with (first
  | (refine wl_boxA rfl _ rfl rfl (fun W2 b2 hb2 => ?_))
  | (refine wl_allocA rfl zero_num rfl (fun W4 b4 hb4 => ?_); have k2 := b2.keep hb4; have hB := below_step hb2 hb4; have n24 : w.heap.size ≠ W2.heap.size := Nat.ne_of_lt b2.lt; have hsz := hb2.size; have b4' : Row24 W4.drew W2.heap.size (List.replicate 24 0) := ⟨b4, rfl⟩; clear b4 hb2 hb4 b2))
 refine wp_region_held_drew (S := fun W : World => Below w.heap.size w W /\ Blk W w.heap.size 24 #[.bool n, .string s, .int .i64 (T : Int)]) (by kernel_rfl) ⟨below_step hB (below_drew _), k2.drew⟩ (fun hS => ?_)
 refine takeE (i := 0) (d := some 5) (v := ?v1) rfl rfl (Or.inl ⟨by rfl, ?h1⟩) hS ?_
 case h1 => intro W _; go_simp; try with_reducible rfl
 simp only [Act.put, zA, zB, zC]
 refine takeE (i := 1) (d := some 6) (v := .string s) rfl rfl (yields_C rfl (by rfl) (by kernel_rfl) _ rfl (j := 1) rfl rfl (fun W hW => hW.2)) hS ?_
 simp only [Act.put, zA, zB, zC]
 refine takeE (i := 2) (d := some 7) (v := ?v2) rfl rfl (Or.inl ⟨by rfl, ?h2⟩) hS ?_
 case h2 => intro W _; go_simp; try with_reducible rfl
 simp only [Act.put, zA, zB, zC]
 refine takeE (i := 3) (d := some 8) (v := ?v3) rfl rfl (Or.inl ⟨by rfl, ?h3⟩) hS ?_
 case h3 => intro W _; go_simp; try with_reducible rfl
 simp only [Act.put, zA, zB, zC]
 refine takeE (i := 4) (d := some 9) (v := .int .i64 (T : Int)) rfl rfl (yields_C rfl (by rfl) (by kernel_rfl) _ rfl (j := 2) rfl rfl (fun W hW => hW.2)) hS ?_
 simp only [Act.put, zA, zB, zC]
 refine takeE (i := 5) (d := some 10) (v := ?v4) rfl rfl (Or.inl ⟨by rfl, ?h4⟩) hS ?_
 case h4 => intro W _; go_simp; try with_reducible rfl
 simp only [Act.put, zA, zB, zC]
 refine ready1 (i := 6) rfl (fun Kc hKc => ?_)
 go_simp
 refine (C1.out _).mono ?_
 rintro e W5 ⟨⟨r, rfl, hr⟩, hb⟩
 replace b4' := b4'.keep hb
 have hrl : r.size <= 120 := by rw [<- bts_length, hr, List.length_replicate]; omega
 obtain ⟨u, hu⟩ : ∃ u, s ++ r = u := ⟨_, rfl⟩
 have hub : bts u = bts s ++ List.replicate c 48 := by rw [<- hu, str_add, hr]
 have HU : Hid _ := Lib.hid hub
 clear hr hub
 refine hKc.out _ _ ⟨below_step hS.1 hb, hS.2.keep hb⟩ (fun hS => ?_)
 clear hKc Kc
 refine takeE (i := 7) (d := some 12) (v := ?v5) rfl rfl (Or.inl ⟨by rfl, ?h5⟩) hS ?_
 case h5 => intro W _; have hq : ¬ 9223372036854775807 < s.size + r.size := (by omega); go_simp; try with_reducible rfl
 simp only [Act.put, zA, zB, zC]
 refine ready1 (i := 8) rfl (fun Kc hKc => ?_)
 go_simp
 refine (pparse_any u (by rw [<- bts_length, HU.out, List.length_append, bts_length, List.length_replicate]; omega) (by rw [HU.out, List.all_append, HD.out, Dc.zeros_dig]; rfl) _).mono ?_
 rintro e W6 ⟨⟨O, rfl, hO⟩, hb⟩
 replace b4' := b4'.keep hb
 have hOl := hO.1.len
 have HO : Hid _ := Lib.hid hO
 clear hO
 refine hKc.out _ _ ⟨below_step hS.1 hb, hS.2.keep hb⟩ (fun hS => ?_)
 clear hKc Kc
 refine ready1 (i := 9) rfl (fun Kc hKc => ?_)
 refine st_of rfl (wp_storeA b4'.blk _ _ rfl rfl rfl (agg_num hOl) (by rw [numV_size, numV_size, hOl]; rfl) (numV_oneL O) rfl (fun W7 b7 hg => ?_))
 refine hKc.out _ _ ⟨below_far hS.1 hS.1.size (by omega) hg, hS.2.far hg (by omega)⟩ (fun hS => ?_)
 clear hKc Kc
 refine wpAnyH_done (by kernel_rfl) ?_ _
 go_wp2
 refine bodyPost_ret (res_cell rfl b7 (agg_num hOl) rfl) rfl ⟨⟨O, rfl, HO.out.1, by rw [HO.out.2, HU.out, Dc.val_zeros_back]⟩, hS.1⟩
end Go.Proofs.YthoojcdjjecogaaGreatDoor
