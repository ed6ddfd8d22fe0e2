/-
  What Mul returns.
-/
import Derived.Test.YthmmjihldkjhhaaGreatDoorPadd
namespace Go.Proofs.YthmmjihldkjhhaaGreatDoor
open Go Go.RowKit

set_option maxRecDepth 100000 in
set_option maxHeartbeats 4000000 in
theorem pMul_no1 (n : Bool) (s : ByteArray) (S : Int) (m : Bool) (t : ByteArray) (U : Int) (hs : s.size ≤ 1000000) (hk : okB n s S = false) (w : World) : Calls Tryz.prog 24 #[.agg #[.bool n, .string s, .int .i64 S], .agg #[.bool m, .string t, .int .i64 U]] w fun e w' => e = argR.ret ∧ Below w.heap.size w w' := by
  have C : Hid _ := Lib.hid (pchecked2_no n s S hs m t U hk)
  clear hk
  go_enter Tryz.func24, Tryz.ntmps24
  go_wp2_with (first
    | (refine wl_boxA rfl (.tmp 0) rfl rfl (fun W2 b2 hb2 => ?_))
    | (refine wl_boxA rfl (.tmp 1) rfl rfl (fun W3 b3 hb3 => ?_); have l2 := b2.lt; have l22 := hb2.size; replace b2 := b2.keep hb3; have l3 := b3.lt)
    | (refine wl_allocA rfl zero_dec rfl (fun W4 b4 hb4 => ?_); replace b2 := b2.keep hb4; replace b3 := b3.keep hb4; have hB := below_step (below_step hb2 hb3) hb4; clear hb2 hb3 hb4)
    | (refine wl_loadA (ty := 23) b2 rfl (by kernel_rfl) _ rfl rfl ?_)
    | (refine wl_loadA (ty := 23) b3 rfl (by kernel_rfl) _ rfl rfl ?_)
    | (go_at_call 43; refine (C.out _ _ (by simp [World.cell?_alloc_new]) (by simp [World.cell?_alloc_new]) (by simp [World.cell?_alloc_new]) (by simp [World.cell?_alloc_new]) (by simp [World.cell?_alloc_new]) (by simp [World.cell?_alloc_new])).mono ?_; rintro e W5 ⟨rfl, hb⟩; replace hB := below_step (below_step hB (below_new _ _)) hb; replace b2 := (Blk.old b2 _).keep hb; replace b3 := (Blk.old b3 _).keep hb; replace b4 := (Blk.old b4 _).keep hb; clear hb)
    | (refine wl_storeA b4 rfl _ _ rfl rfl rfl (by kernel_rfl) rfl rfl rfl (fun W8 b8 hg => ?_); have hB8 := below_far hB hB.size (by omega) hg; clear hg))
  exact bodyPost_ret (res_cell_tmp rfl b8 (by kernel_rfl) rfl rfl) rfl ⟨rfl, hB8⟩
set_option maxRecDepth 100000 in
set_option maxHeartbeats 4000000 in
theorem pMul_no2 (n : Bool) (s : ByteArray) (S : Int) (m : Bool) (t : ByteArray) (U : Int) (hs : s.size ≤ 1000000) (ht : t.size ≤ 1000000) (hk1 : okB n s S = true) (hk : okB m t U = false) (w : World) : Calls Tryz.prog 24 #[.agg #[.bool n, .string s, .int .i64 S], .agg #[.bool m, .string t, .int .i64 U]] w fun e w' => e = argR.ret ∧ Below w.heap.size w w' := by
  have C : Hid _ := Lib.hid (pchecked2_yn n s S hs m t U ht hk1 hk)
  clear hk1 hk
  go_enter Tryz.func24, Tryz.ntmps24
  go_wp2_with (first
    | (refine wl_boxA rfl (.tmp 0) rfl rfl (fun W2 b2 hb2 => ?_))
    | (refine wl_boxA rfl (.tmp 1) rfl rfl (fun W3 b3 hb3 => ?_); have l2 := b2.lt; have l22 := hb2.size; replace b2 := b2.keep hb3; have l3 := b3.lt)
    | (refine wl_allocA rfl zero_dec rfl (fun W4 b4 hb4 => ?_); replace b2 := b2.keep hb4; replace b3 := b3.keep hb4; have hB := below_step (below_step hb2 hb3) hb4; clear hb2 hb3 hb4)
    | (refine wl_loadA (ty := 23) b2 rfl (by kernel_rfl) _ rfl rfl ?_)
    | (refine wl_loadA (ty := 23) b3 rfl (by kernel_rfl) _ rfl rfl ?_)
    | (go_at_call 43; refine (C.out _ _ (by simp [World.cell?_alloc_new]) (by simp [World.cell?_alloc_new]) (by simp [World.cell?_alloc_new]) (by simp [World.cell?_alloc_new]) (by simp [World.cell?_alloc_new]) (by simp [World.cell?_alloc_new])).mono ?_; rintro e W5 ⟨rfl, hb⟩; replace hB := below_step (below_step hB (below_new _ _)) hb; replace b2 := (Blk.old b2 _).keep hb; replace b3 := (Blk.old b3 _).keep hb; replace b4 := (Blk.old b4 _).keep hb; clear hb)
    | (refine wl_storeA b4 rfl _ _ rfl rfl rfl (by kernel_rfl) rfl rfl rfl (fun W8 b8 hg => ?_); have hB8 := below_far hB hB.size (by omega) hg; clear hg))
  exact bodyPost_ret (res_cell_tmp rfl b8 (by kernel_rfl) rfl rfl) rfl ⟨rfl, hB8⟩
theorem mul_low {s t : ByteArray} (hs : s.size ≤ 60) (ht : t.size ≤ 60) (h1 : (bts s).all Dc.dig = true) (h2 : (bts t).all Dc.dig = true) : Dc.val (bts s) * Dc.val (bts t) < 10 ^ 120 := by
  have a1 := Dc.val_lt h1
  have a2 := Dc.val_lt h2
  rw [bts_length] at a1 a2
  have b1 : (10 : Nat) ^ s.size ≤ 10 ^ 60 := Nat.pow_le_pow_right (by decide) hs
  have b2 : (10 : Nat) ^ t.size ≤ 10 ^ 60 := Nat.pow_le_pow_right (by decide) ht
  have := Nat.mul_lt_mul_of_lt_of_le (Nat.lt_of_lt_of_le a1 b1) (Nat.le_of_lt (Nat.lt_of_lt_of_le a2 b2)) (Dc.pow10_pos 60)
  rwa [← Nat.pow_add] at this
set_option maxRecDepth 100000 in
set_option maxHeartbeats 4000000 in
theorem pMul_yes (n : Bool) (s : ByteArray) (S : Int) (m : Bool) (t : ByteArray) (U : Int) (hk1 : okB n s S = true) (hk2 : okB m t U = true) (r : Res) (hr : resOf (Dc.mulD (rawD n s S) (rawD m t U)) = r) (w : World) (hP : Pow w) : Calls Tryz.prog 24 #[.agg #[.bool n, .string s, .int .i64 S], .agg #[.bool m, .string t, .int .i64 U]] w fun e w' => e = .returned (.tuple #[.agg #[.bool r.n, .string r.s, .int .i64 r.S], .int .i64 r.k]) ∧ Below w.heap.size w w' := by
  have h1 := okB_ok hk1
  have h2 := okB_ok hk2
  obtain ⟨T, rfl⟩ : ∃ T : Nat, S = T := ⟨S.toNat, by have := h1.low; omega⟩
  obtain ⟨V, rfl⟩ : ∃ V : Nat, U = V := ⟨U.toNat, by have := h2.low; omega⟩
  have hT : T ≤ 60 := by have := h1.high; omega
  have hV : V ≤ 60 := by have := h2.high; omega
  have C : Hid _ := Lib.hid (pchecked2_yes n s (T : Int) (by have := h1.size; omega) m t (V : Int) (by have := h2.size; omega) hk1 hk2)
  obtain ⟨K, hK⟩ : ∃ K, T + V = K := ⟨_, rfl⟩
  have C1 : Hid _ := Lib.hid (pparse_any s (by have := h1.size; omega) h1.dig.all)
  have C2 : Hid _ := Lib.hid (pparse_any t (by have := h2.size; omega) h2.dig.all)
  have HL : Hid _ := Lib.hid (mul_low h1.size h2.size h1.dig.all h2.dig.all)
  have HR : Hid (resOf (Dc.can (n != m) (Dc.val (bts s) * Dc.val (bts t)) K) = r) := Lib.hid (by rw [← hK, ← Dc.mulD_can, ← hr]; rfl)
  have eK : IntKind.i64.wrap ((T : Int) + (V : Int)) = (K : Int) := by rw [IntKind.wrap_i64]; omega
  have hKl : K ≤ 120 := by omega
  have HP : Hid _ := Lib.hid hP
  clear h1 h2 hk1 hk2 hr hP hK
  go_enter Tryz.func24, Tryz.ntmps24
  go_wp2_with (first
    | (refine wl_boxA rfl (.tmp 0) rfl rfl (fun W2 b2 hb2 => ?_))
    | (refine wl_boxA rfl (.tmp 1) rfl rfl (fun W3 b3 hb3 => ?_); have l2 := b2.lt; have l22 := hb2.size; replace b2 := b2.keep hb3; have l3 := b3.lt)
    | (refine wl_allocA rfl zero_dec rfl (fun W4 b4 hb4 => ?_); replace b2 := b2.keep hb4; replace b3 := b3.keep hb4; have hB := below_step (below_step hb2 hb3) hb4; clear hb2 hb3 hb4)
    | (refine wl_loadA (ty := 23) b2 rfl (by kernel_rfl) _ rfl rfl ?_)
    | (refine wl_loadA (ty := 23) b3 rfl (by kernel_rfl) _ rfl rfl ?_)
    | (go_at_call 43; refine (C.out _ _ (by simp [World.cell?_alloc_new]) (by simp [World.cell?_alloc_new]) (by simp [World.cell?_alloc_new]) (by simp [World.cell?_alloc_new]) (by simp [World.cell?_alloc_new]) (by simp [World.cell?_alloc_new])).mono ?_; rintro e W5 ⟨rfl, hb⟩; replace hB := below_step (below_step hB (below_new _ _)) hb; replace b2 := (Blk.old b2 _).keep hb; replace b3 := (Blk.old b3 _).keep hb; replace b4 := (Blk.old b4 _).keep hb; clear hb))
  refine wp_region_held_drew (S := fun W : World => Below w.heap.size w W ∧ Blk W w.heap.size 23 #[.bool n, .string s, .int .i64 (T : Int)] ∧ Blk W W2.heap.size 23 #[.bool m, .string t, .int .i64 (V : Int)]) (by kernel_rfl) ⟨below_step hB (below_drew _), b2.drew, b3.drew⟩ (fun hS => ?_)
  replace b4 := b4.drew
  refine takeH (i := 0) (d := some 12) (v := ?v4) rfl rfl (by kernel_rfl) (by kernel_rfl) (by kernel_rfl) (fun _ _ _ h => h) (Or.inl ⟨by rfl, ?h4⟩) hS ?_
  case h4 => intro W _; go_simp; try with_reducible rfl
  simp only [Act.put, List.setIfInBounds_toArray, List.set_cons_zero, List.set_cons_succ]
  refine takeH (i := 1) (d := some 13) (v := .bool n) rfl rfl (by kernel_rfl) (by kernel_rfl) (by kernel_rfl) (fun _ _ _ h => h) (yields_C rfl (by rfl) (by kernel_rfl) _ rfl (j := 0) rfl rfl (fun W hW => hW.2.1)) hS ?_
  simp only [Act.put, List.setIfInBounds_toArray, List.set_cons_zero, List.set_cons_succ]
  refine takeH (i := 2) (d := some 14) (v := ?v5) rfl rfl (by kernel_rfl) (by kernel_rfl) (by kernel_rfl) (fun _ _ _ h => h) (Or.inl ⟨by rfl, ?h5⟩) hS ?_
  case h5 => intro W _; go_simp; try with_reducible rfl
  simp only [Act.put, List.setIfInBounds_toArray, List.set_cons_zero, List.set_cons_succ]
  refine takeH (i := 3) (d := some 15) (v := .bool m) rfl rfl (by kernel_rfl) (by kernel_rfl) (by kernel_rfl) (fun _ _ _ h => h) (yields_C rfl (by rfl) (by kernel_rfl) _ rfl (j := 0) rfl rfl (fun W hW => hW.2.2)) hS ?_
  simp only [Act.put, List.setIfInBounds_toArray, List.set_cons_zero, List.set_cons_succ]
  refine takeH (i := 4) (d := some 16) (v := ?v6) rfl rfl (by kernel_rfl) (by kernel_rfl) (by kernel_rfl) (fun _ _ _ h => h) (Or.inl ⟨by rfl, ?h6⟩) hS ?_
  case h6 => intro W _; go_simp; try with_reducible rfl
  simp only [Act.put, List.setIfInBounds_toArray, List.set_cons_zero, List.set_cons_succ]
  refine takeH (i := 5) (d := some 17) (v := ?v7) rfl rfl (by kernel_rfl) (by kernel_rfl) (by kernel_rfl) (fun _ _ _ h => h) (Or.inl ⟨by rfl, ?h7⟩) hS ?_
  case h7 => intro W _; go_simp; try with_reducible rfl
  simp only [Act.put, List.setIfInBounds_toArray, List.set_cons_zero, List.set_cons_succ]
  refine takeH (i := 6) (d := some 18) (v := .string s) rfl rfl (by kernel_rfl) (by kernel_rfl) (by kernel_rfl) (fun _ _ _ h => h) (yields_C rfl (by rfl) (by kernel_rfl) _ rfl (j := 1) rfl rfl (fun W hW => hW.2.1)) hS ?_
  simp only [Act.put, List.setIfInBounds_toArray, List.set_cons_zero, List.set_cons_succ]
  refine takeH (i := 8) (d := some 20) (v := ?v8) rfl rfl (by kernel_rfl) (by kernel_rfl) (by kernel_rfl) (fun _ _ _ h => h) (Or.inl ⟨by rfl, ?h8⟩) hS ?_
  case h8 => intro W _; go_simp; try with_reducible rfl
  simp only [Act.put, List.setIfInBounds_toArray, List.set_cons_zero, List.set_cons_succ]
  refine takeH (i := 9) (d := some 21) (v := .string t) rfl rfl (by kernel_rfl) (by kernel_rfl) (by kernel_rfl) (fun _ _ _ h => h) (yields_C rfl (by rfl) (by kernel_rfl) _ rfl (j := 1) rfl rfl (fun W hW => hW.2.2)) hS ?_
  simp only [Act.put, List.setIfInBounds_toArray, List.set_cons_zero, List.set_cons_succ]
  refine takeH (i := 13) (d := some 25) (v := ?v9) rfl rfl (by kernel_rfl) (by kernel_rfl) (by kernel_rfl) (fun _ _ _ h => h) (Or.inl ⟨by rfl, ?h9⟩) hS ?_
  case h9 => intro W _; go_simp; try with_reducible rfl
  simp only [Act.put, List.setIfInBounds_toArray, List.set_cons_zero, List.set_cons_succ]
  refine takeH (i := 14) (d := some 26) (v := .int .i64 (T : Int)) rfl rfl (by kernel_rfl) (by kernel_rfl) (by kernel_rfl) (fun _ _ _ h => h) (yields_C rfl (by rfl) (by kernel_rfl) _ rfl (j := 2) rfl rfl (fun W hW => hW.2.1)) hS ?_
  simp only [Act.put, List.setIfInBounds_toArray, List.set_cons_zero, List.set_cons_succ]
  refine takeH (i := 15) (d := some 27) (v := ?v10) rfl rfl (by kernel_rfl) (by kernel_rfl) (by kernel_rfl) (fun _ _ _ h => h) (Or.inl ⟨by rfl, ?h10⟩) hS ?_
  case h10 => intro W _; go_simp; try with_reducible rfl
  simp only [Act.put, List.setIfInBounds_toArray, List.set_cons_zero, List.set_cons_succ]
  refine takeH (i := 16) (d := some 28) (v := .int .i64 (V : Int)) rfl rfl (by kernel_rfl) (by kernel_rfl) (by kernel_rfl) (fun _ _ _ h => h) (yields_C rfl (by rfl) (by kernel_rfl) _ rfl (j := 2) rfl rfl (fun W hW => hW.2.2)) hS ?_
  simp only [Act.put, List.setIfInBounds_toArray, List.set_cons_zero, List.set_cons_succ]
  refine takeH (i := 17) (d := some 29) (v := ?v11) rfl rfl (by kernel_rfl) (by kernel_rfl) (by kernel_rfl) (fun _ _ _ h => h) (Or.inl ⟨by rfl, ?h11⟩) hS ?_
  case h11 => intro W _; go_simp; try with_reducible rfl
  simp only [Act.put, List.setIfInBounds_toArray, List.set_cons_zero, List.set_cons_succ]
  refine wpAnyH_ready (rs := [7]) (by kernel_rfl) (by simp) ?_
  refine AllReadyH.cons rfl (fun Kc hKc => ?_) AllReadyH.nil
  go_simp
  refine (C1.out _).mono ?_
  rintro e W6 ⟨⟨A, rfl, hA⟩, hb⟩
  have HA : Hid _ := Lib.hid hA
  clear hA
  replace b4 := b4.keep hb
  refine hKc.out _ _ ⟨below_step hS.1 hb, hS.2.1.keep hb, hS.2.2.keep hb⟩ (fun hS => ?_)
  clear hKc Kc
  refine wpAnyH_ready (rs := [10]) (by kernel_rfl) (by simp) ?_
  refine AllReadyH.cons rfl (fun Kc hKc => ?_) AllReadyH.nil
  go_simp
  refine (C2.out _).mono ?_
  rintro e W7 ⟨⟨B, rfl, hB3⟩, hb⟩
  have HB : Hid _ := Lib.hid hB3
  clear hB3
  replace b4 := b4.keep hb
  refine hKc.out _ _ ⟨below_step hS.1 hb, hS.2.1.keep hb, hS.2.2.keep hb⟩ (fun hS => ?_)
  clear hKc Kc
  refine wpAnyH_ready (rs := [11]) (by kernel_rfl) (by simp) ?_
  refine AllReadyH.cons rfl (fun Kc hKc => ?_) AllReadyH.nil
  go_simp
  refine (ptimes_any A B HA.out.1 HB.out.1 _).mono ?_
  rintro e W8 ⟨⟨O, rfl, hO⟩, hb⟩
  have HO : Hid _ := Lib.hid hO
  clear hO
  replace b4 := b4.keep hb
  refine hKc.out _ _ ⟨below_step hS.1 hb, hS.2.1.keep hb, hS.2.2.keep hb⟩ (fun hS => ?_)
  clear hKc Kc
  refine wpAnyH_ready (rs := [12]) (by kernel_rfl) (by simp) ?_
  refine AllReadyH.cons rfl (fun Kc hKc => ?_) AllReadyH.nil
  go_simp
  refine (pdigits_any O HO.out.1 _ (HP.out.keep hS.1)).mono ?_
  rintro e W9 ⟨⟨u, rfl, hu⟩, hb⟩
  have HU : Hid _ := Lib.hid hu
  clear hu
  replace b4 := b4.keep hb
  refine hKc.out _ _ ⟨below_step hS.1 hb, hS.2.1.keep hb, hS.2.2.keep hb⟩ (fun hS => ?_)
  clear hKc Kc
  refine wpAnyH_ready (rs := [18]) (by kernel_rfl) (by simp) ?_
  refine AllReadyH.cons rfl (fun Kc hKc => ?_) AllReadyH.nil
  go_simp
  refine (pof_is _ u K (Nat.le_trans (digs_size (k := 120) HU.out (by rw [HO.out.2, HA.out.2, HB.out.2]; exact Nat.lt_of_le_of_lt (Nat.mod_le _ _) HL.out) (by decide)) (by decide)) (by omega) (digs_all HU.out) r (by rw [val_of HU.out, HO.out.2, HA.out.2, HB.out.2, Nat.mod_eq_of_lt (lt_top HL.out (by decide))]; exact HR.out) _).mono ?_
  rintro e W10 ⟨rfl, hb⟩
  replace b4 := b4.keep hb
  refine hKc.out _ _ ⟨below_step hS.1 hb, hS.2.1.keep hb, hS.2.2.keep hb⟩ (fun hS => ?_)
  clear hKc Kc
  refine takeH (i := 19) (d := some 31) (v := ?v12) rfl rfl (by kernel_rfl) (by kernel_rfl) (by kernel_rfl) (fun _ _ _ h => h) (Or.inl ⟨by rfl, ?h12⟩) hS ?_
  case h12 => intro W _; go_simp; try with_reducible rfl
  simp only [Act.put, List.setIfInBounds_toArray, List.set_cons_zero, List.set_cons_succ]
  refine takeH (i := 20) (d := some 32) (v := ?v13) rfl rfl (by kernel_rfl) (by kernel_rfl) (by kernel_rfl) (fun _ _ _ h => h) (Or.inl ⟨by rfl, ?h13⟩) hS ?_
  case h13 => intro W _; go_simp; try with_reducible rfl
  simp only [Act.put, List.setIfInBounds_toArray, List.set_cons_zero, List.set_cons_succ]
  refine wpAnyH_ready (rs := [21]) (by kernel_rfl) (by simp) ?_
  refine AllReadyH.cons rfl (fun Kc hKc => ?_) AllReadyH.nil
  refine st_of rfl (wp_storeA b4 _ _ rfl rfl rfl (by kernel_rfl) rfl rfl rfl (fun W11 b8 hg => ?_))
  refine hKc.out _ _ ⟨below_far hS.1 hS.1.size (by omega) hg, hS.2.1.far hg (by omega), hS.2.2.far hg (by omega)⟩ (fun hS => ?_)
  clear hKc Kc
  refine takeH (i := 22) (d := some 5) (v := ?v14) rfl rfl (by kernel_rfl) (by kernel_rfl) (by kernel_rfl) (fun _ _ _ h => h) (Or.inl ⟨by rfl, ?h14⟩) hS ?_
  case h14 => intro W _; go_simp; try with_reducible rfl
  simp only [Act.put, List.setIfInBounds_toArray, List.set_cons_zero, List.set_cons_succ]
  refine wpAnyH_done (by kernel_rfl) ?_ _
  go_wp2
  exact bodyPost_ret (res_cell_tmp rfl b8 (by kernel_rfl) rfl rfl) rfl ⟨rfl, hS.1⟩
theorem pmul_is (n : Bool) (s : ByteArray) (S : Int) (m : Bool) (t : ByteArray) (U : Int) (hs : s.size ≤ 1000000) (ht : t.size ≤ 1000000) (r : Res) (hr : twoR Dc.mulD n s S m t U = r) (w : World) (hP : Pow w) : Calls Tryz.prog 24 #[.agg #[.bool n, .string s, .int .i64 S], .agg #[.bool m, .string t, .int .i64 U]] w fun e w' => e = .returned (.tuple #[.agg #[.bool r.n, .string r.s, .int .i64 r.S], .int .i64 r.k]) ∧ Below w.heap.size w w' := by
  cases h1 : okB n s S with
  | false => rw [two_no1 h1] at hr; subst hr; exact pMul_no1 n s S m t U hs h1 w
  | true =>
    cases h2 : okB m t U with
    | false => rw [two_no2 h2] at hr; subst hr; exact pMul_no2 n s S m t U hs ht h1 h2 w
    | true => rw [two_yes h1 h2] at hr; exact pMul_yes n s S m t U h1 h2 r hr w hP
end Go.Proofs.YthmmjihldkjhhaaGreatDoor
