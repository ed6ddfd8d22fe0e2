/-
  What zeros, same, opposite, sum, Neg, Add, Sub and Mul of the reference return.
-/
import Derived.Test.YthmmjihldkjhhaaGreatDoorRes
import Derived.Test.YthmmjihldkjhhaaGreatDoorReg
namespace Go.Proofs.YthmmjihldkjhhaaGreatDoor
open Go Go.RowKit

theorem zero_dec : (Tryz.prog.info? 23).bind (·.zero) = some (.agg #[.bool false, .string ⟨#[]⟩, .int .i64 0]) := by kernel_rfl
theorem rcheck_r (n : Bool) (s : ByteArray) (S : Int) (hs : s.size ≤ 1000000) (r : Int) (hr : ckI n s S = r) (w : World) : Calls Tryz.prog 14 #[.agg #[.bool n, .string s, .int .i64 S]] w fun e w' => e = .returned (.int .i64 r) ∧ Below w.heap.size w w' := by
  rw [← hr]; exact rcheck_any n s S hs w
theorem rzeros_b (z : Int) (n : Nat) (hz : z = n) (hn : n ≤ 1000000) (w : World) : Calls Tryz.prog 45 #[.int .i64 z] w fun e w' => (∃ t : ByteArray, e = .returned (.string t) ∧ bts t = List.replicate n 48) ∧ Below w.heap.size w w' := by
  refine (rzeros_any z n hz hn w).mono ?_
  rintro e w' ⟨⟨t, rfl, ht⟩, rfl⟩
  refine ⟨⟨t, rfl, ?_⟩, Below.refl _ _⟩
  rw [ht]
  exact bts_str _ (fun b hb => by rw [List.eq_of_mem_replicate hb]; decide)
theorem rmade_is (neg : Bool) (s : ByteArray) (S : Nat) (hs : s.size ≤ 1000) (hS : S ≤ 1000) (h1 : Digs s) (r : Res) (hr : resOf (Dc.can neg (Dc.val (bts s)) S) = r) (w : World) : Calls Tryz.prog 42 #[.bool neg, .string s, .int .i64 (S : Int)] w fun e w' => e = .returned (.tuple #[.agg #[.bool r.n, .string r.s, .int .i64 r.S], .int .i64 r.k]) ∧ Below w.heap.size w w' :=
  (rmade_any neg s S hs hS h1 w).mono fun _ _ ⟨he, hb⟩ => ⟨he.trans (made_is hr), hb⟩
theorem digs_size {u : ByteArray} {x k : Nat} (h : bts u = Dc.digs x) (hx : x < 10 ^ k) (hk : 1 ≤ k) : u.size ≤ k := by
  rw [← bts_length, h]; exact (Dc.digs_length hk).2 hx
theorem digs_all {u : ByteArray} {x : Nat} (h : bts u = Dc.digs x) : (bts u).all Dc.dig = true := by rw [h]; exact Dc.digs_dig x
theorem val_of {u : ByteArray} {x : Nat} (h : bts u = Dc.digs x) : Dc.val (bts u) = x := by rw [h, Dc.val_digs]
theorem digs_is {u : ByteArray} {x : Nat} (h : bts u = Dc.digs x) : Digs u := ⟨digs_all h, by rw [h]; exact Dc.digs_ne x⟩
theorem scaled_low {s : ByteArray} {c : Nat} (hs : s.size ≤ 60) (hd : (bts s).all Dc.dig = true) (hc : c ≤ 60) : Dc.val (bts s) * 10 ^ c < 10 ^ 120 := by
  have h1 := Dc.val_lt hd
  rw [bts_length] at h1
  have h2 : (10 : Nat) ^ s.size ≤ 10 ^ 60 := Nat.pow_le_pow_right (by decide) hs
  have h3 : (10 : Nat) ^ c ≤ 10 ^ 60 := Nat.pow_le_pow_right (by decide) hc
  have h4 : Dc.val (bts s) * 10 ^ c ≤ Dc.val (bts s) * 10 ^ 60 := Nat.mul_le_mul_left _ h3
  have h5 : Dc.val (bts s) * 10 ^ 60 < 10 ^ 60 * 10 ^ 60 := Nat.mul_lt_mul_of_pos_right (Nat.lt_of_lt_of_le h1 h2) (Dc.pow10_pos 60)
  rw [← Nat.pow_add] at h5
  exact Nat.lt_of_le_of_lt h4 h5
theorem mul_low {s t : ByteArray} (hs : s.size ≤ 60) (ht : t.size ≤ 60) (h1 : (bts s).all Dc.dig = true) (h2 : (bts t).all Dc.dig = true) : Dc.val (bts s) * Dc.val (bts t) < 10 ^ 120 := by
  have a1 := Dc.val_lt h1
  have a2 := Dc.val_lt h2
  rw [bts_length] at a1 a2
  have b1 : (10 : Nat) ^ s.size ≤ 10 ^ 60 := Nat.pow_le_pow_right (by decide) hs
  have b2 : (10 : Nat) ^ t.size ≤ 10 ^ 60 := Nat.pow_le_pow_right (by decide) ht
  have := Nat.mul_lt_mul_of_lt_of_le (Nat.lt_of_lt_of_le a1 b1) (Nat.le_of_lt (Nat.lt_of_lt_of_le a2 b2)) (Dc.pow10_pos 60)
  rwa [← Nat.pow_add] at this
/-- Digits with zeros behind them. -/
structure Scaled (s : ByteArray) (c : Nat) (x : ByteArray) : Prop where
  eq : bts x = bts s ++ List.replicate c 48
theorem Scaled.val {s x : ByteArray} {c : Nat} (h : Scaled s c x) : Dc.val (bts x) = Dc.val (bts s) * 10 ^ c := by rw [h.eq, Dc.val_zeros_back]
theorem Scaled.size {s x : ByteArray} {c : Nat} (h : Scaled s c x) : x.size = s.size + c := by rw [← bts_length, h.eq, List.length_append, bts_length, List.length_replicate]
theorem Scaled.digs {s x : ByteArray} {c : Nat} (h : Scaled s c x) (hd : Digs s) : Digs x := ⟨by rw [h.eq, List.all_append, hd.all, Dc.zeros_dig]; rfl, by rw [h.eq]; simp [hd.ne]⟩
set_option maxRecDepth 100000 in
set_option maxHeartbeats 4000000 in
theorem rsame_any (n : Bool) (s : ByteArray) (T : Nat) (m : Bool) (t : ByteArray) (V M : Nat) (hM : max T V = M) (hs : s.size ≤ 60) (ht : t.size ≤ 60) (hT : T ≤ 60) (hV : V ≤ 60) (w : World) : Calls Tryz.prog 52 #[.agg #[.bool n, .string s, .int .i64 (T : Int)], .agg #[.bool m, .string t, .int .i64 (V : Int)]] w fun e w' => (∃ x y : ByteArray, e = .returned (.tuple #[.string x, .string y, .int .i64 (M : Int)]) ∧ Scaled s (M - T) x ∧ Scaled t (M - V) y) ∧ Below w.heap.size w w' := by
  have hmx : max (T : Int) (V : Int) = (M : Int) := by omega
  have hMl : M ≤ 60 := by omega
  have hTM : T ≤ M := by omega
  have hVM : V ≤ M := by omega
  obtain ⟨c, hc⟩ : ∃ c, M - T = c := ⟨_, rfl⟩
  obtain ⟨d, hd⟩ : ∃ d, M - V = d := ⟨_, rfl⟩
  have e1 : IntKind.i64.wrap ((M : Int) - (T : Int)) = (c : Int) := by rw [IntKind.wrap_i64]; omega
  have e2 : IntKind.i64.wrap ((M : Int) - (V : Int)) = (d : Int) := by rw [IntKind.wrap_i64]; omega
  have hcl : c ≤ 60 := by omega
  have hdl : d ≤ 60 := by omega
  have Z1 : Hid _ := Lib.hid (rzeros_b (c : Int) c rfl (by omega))
  have Z2 : Hid _ := Lib.hid (rzeros_b (d : Int) d rfl (by omega))
  rw [hc, hd]
  clear hM hc hd
  go_enter Tryz.func52, Tryz.ntmps52
  go_wp2_with (first
    | (refine wl_boxA rfl (.tmp 0) rfl rfl (fun W2 b2 hb2 => ?_))
    | (refine wl_boxA rfl (.tmp 1) rfl rfl (fun W3 b3 hb3 => ?_); have l2 := b2.lt; have l22 := hb2.size; replace b2 := b2.keep hb3; have l3 := b3.lt; have hB := below_step hb2 hb3; clear hb2 hb3)
    | (refine wl_loadA (ty := 23) b2 rfl (by kernel_rfl) _ rfl rfl ?_)
    | (refine wl_loadA (ty := 23) b3 rfl (by kernel_rfl) _ rfl rfl ?_)
    | (refine wl_loadC b2 rfl (by kernel_rfl) _ rfl (j := 2) rfl rfl ?_)
    | (refine wl_loadC b3 rfl (by kernel_rfl) _ rfl (j := 2) rfl rfl ?_))
  refine wp_region_held_drew (S := fun W : World => Below w.heap.size w W ∧ Blk W w.heap.size 23 #[.bool n, .string s, .int .i64 (T : Int)] ∧ Blk W W2.heap.size 23 #[.bool m, .string t, .int .i64 (V : Int)]) (by kernel_rfl) ⟨below_step hB (below_drew _), b2.drew, b3.drew⟩ (fun hS => ?_)
  refine takeH (i := 0) (d := some 13) (v := ?v15) rfl rfl (by kernel_rfl) (by kernel_rfl) (by kernel_rfl) (fun _ _ _ h => h) (Or.inl ⟨by rfl, ?h15⟩) hS ?_
  case h15 => intro W _; go_simp; try with_reducible rfl
  simp only [Act.put, List.setIfInBounds_toArray, List.set_cons_zero, List.set_cons_succ]
  refine takeH (i := 1) (d := some 14) (v := .string s) rfl rfl (by kernel_rfl) (by kernel_rfl) (by kernel_rfl) (fun _ _ _ h => h) (yields_C rfl (by rfl) (by kernel_rfl) _ rfl (j := 1) rfl rfl (fun W hW => hW.2.1)) hS ?_
  simp only [Act.put, List.setIfInBounds_toArray, List.set_cons_zero, List.set_cons_succ]
  refine takeH (i := 2) (d := some 15) (v := ?v16) rfl rfl (by kernel_rfl) (by kernel_rfl) (by kernel_rfl) (fun _ _ _ h => h) (Or.inl ⟨by rfl, ?h16⟩) hS ?_
  case h16 => intro W _; go_simp; try with_reducible rfl
  simp only [Act.put, List.setIfInBounds_toArray, List.set_cons_zero, List.set_cons_succ]
  refine takeH (i := 3) (d := some 16) (v := ?v17) rfl rfl (by kernel_rfl) (by kernel_rfl) (by kernel_rfl) (fun _ _ _ h => h) (Or.inl ⟨by rfl, ?h17⟩) hS ?_
  case h17 => intro W _; go_simp; try with_reducible rfl
  simp only [Act.put, List.setIfInBounds_toArray, List.set_cons_zero, List.set_cons_succ]
  refine takeH (i := 4) (d := some 17) (v := .int .i64 (T : Int)) rfl rfl (by kernel_rfl) (by kernel_rfl) (by kernel_rfl) (fun _ _ _ h => h) (yields_C rfl (by rfl) (by kernel_rfl) _ rfl (j := 2) rfl rfl (fun W hW => hW.2.1)) hS ?_
  simp only [Act.put, List.setIfInBounds_toArray, List.set_cons_zero, List.set_cons_succ]
  refine takeH (i := 5) (d := some 18) (v := ?v18) rfl rfl (by kernel_rfl) (by kernel_rfl) (by kernel_rfl) (fun _ _ _ h => h) (Or.inl ⟨by rfl, ?h18⟩) hS ?_
  case h18 => intro W _; go_simp; try with_reducible rfl
  simp only [Act.put, List.setIfInBounds_toArray, List.set_cons_zero, List.set_cons_succ]
  refine takeH (i := 8) (d := some 21) (v := ?v19) rfl rfl (by kernel_rfl) (by kernel_rfl) (by kernel_rfl) (fun _ _ _ h => h) (Or.inl ⟨by rfl, ?h19⟩) hS ?_
  case h19 => intro W _; go_simp; try with_reducible rfl
  simp only [Act.put, List.setIfInBounds_toArray, List.set_cons_zero, List.set_cons_succ]
  refine takeH (i := 9) (d := some 22) (v := .string t) rfl rfl (by kernel_rfl) (by kernel_rfl) (by kernel_rfl) (fun _ _ _ h => h) (yields_C rfl (by rfl) (by kernel_rfl) _ rfl (j := 1) rfl rfl (fun W hW => hW.2.2)) hS ?_
  simp only [Act.put, List.setIfInBounds_toArray, List.set_cons_zero, List.set_cons_succ]
  refine takeH (i := 10) (d := some 23) (v := ?v20) rfl rfl (by kernel_rfl) (by kernel_rfl) (by kernel_rfl) (fun _ _ _ h => h) (Or.inl ⟨by rfl, ?h20⟩) hS ?_
  case h20 => intro W _; go_simp; try with_reducible rfl
  simp only [Act.put, List.setIfInBounds_toArray, List.set_cons_zero, List.set_cons_succ]
  refine takeH (i := 11) (d := some 24) (v := ?v21) rfl rfl (by kernel_rfl) (by kernel_rfl) (by kernel_rfl) (fun _ _ _ h => h) (Or.inl ⟨by rfl, ?h21⟩) hS ?_
  case h21 => intro W _; go_simp; try with_reducible rfl
  simp only [Act.put, List.setIfInBounds_toArray, List.set_cons_zero, List.set_cons_succ]
  refine takeH (i := 12) (d := some 25) (v := .int .i64 (V : Int)) rfl rfl (by kernel_rfl) (by kernel_rfl) (by kernel_rfl) (fun _ _ _ h => h) (yields_C rfl (by rfl) (by kernel_rfl) _ rfl (j := 2) rfl rfl (fun W hW => hW.2.2)) hS ?_
  simp only [Act.put, List.setIfInBounds_toArray, List.set_cons_zero, List.set_cons_succ]
  refine takeH (i := 13) (d := some 26) (v := ?v22) rfl rfl (by kernel_rfl) (by kernel_rfl) (by kernel_rfl) (fun _ _ _ h => h) (Or.inl ⟨by rfl, ?h22⟩) hS ?_
  case h22 => intro W _; go_simp; try with_reducible rfl
  simp only [Act.put, List.setIfInBounds_toArray, List.set_cons_zero, List.set_cons_succ]
  refine takeH (i := 16) (d := some 29) (v := ?v23) rfl rfl (by kernel_rfl) (by kernel_rfl) (by kernel_rfl) (fun _ _ _ h => h) (Or.inl ⟨by rfl, ?h23⟩) hS ?_
  case h23 => intro W _; go_simp; try with_reducible rfl
  simp only [Act.put, List.setIfInBounds_toArray, List.set_cons_zero, List.set_cons_succ]
  refine wpAnyH_ready (rs := [6]) (by kernel_rfl) (by simp) ?_
  refine AllReadyH.cons rfl (fun Kc hKc => ?_) AllReadyH.nil
  go_simp
  refine (Z1.out _).mono ?_
  rintro e W6 ⟨⟨z1, rfl, hz1⟩, hb⟩
  have HZ1 : Hid _ := Lib.hid hz1
  have zl1 : z1.size ≤ 60 := by rw [← bts_length, hz1, List.length_replicate]; omega
  clear hz1
  refine hKc.out _ _ ⟨below_step hS.1 hb, hS.2.1.keep hb, hS.2.2.keep hb⟩ (fun hS => ?_)
  clear hKc Kc
  refine takeH (i := 7) (d := some 20) (v := ?v24) rfl rfl (by kernel_rfl) (by kernel_rfl) (by kernel_rfl) (fun _ _ _ h => h) (Or.inl ⟨by rfl, ?h24⟩) hS ?_
  case h24 => intro W _; have hq : ¬ 9223372036854775807 < s.size + z1.size := (by omega); go_simp; try with_reducible rfl
  simp only [Act.put, List.setIfInBounds_toArray, List.set_cons_zero, List.set_cons_succ]
  refine wpAnyH_ready (rs := [14]) (by kernel_rfl) (by simp) ?_
  refine AllReadyH.cons rfl (fun Kc hKc => ?_) AllReadyH.nil
  go_simp
  refine (Z2.out _).mono ?_
  rintro e W7 ⟨⟨z2, rfl, hz2⟩, hb⟩
  have HZ2 : Hid _ := Lib.hid hz2
  have zl2 : z2.size ≤ 60 := by rw [← bts_length, hz2, List.length_replicate]; omega
  clear hz2
  refine hKc.out _ _ ⟨below_step hS.1 hb, hS.2.1.keep hb, hS.2.2.keep hb⟩ (fun hS => ?_)
  clear hKc Kc
  refine takeH (i := 15) (d := some 28) (v := ?v25) rfl rfl (by kernel_rfl) (by kernel_rfl) (by kernel_rfl) (fun _ _ _ h => h) (Or.inl ⟨by rfl, ?h25⟩) hS ?_
  case h25 => intro W _; have hq : ¬ 9223372036854775807 < t.size + z2.size := (by omega); go_simp; try with_reducible rfl
  simp only [Act.put, List.setIfInBounds_toArray, List.set_cons_zero, List.set_cons_succ]
  refine takeH (i := 17) (d := some 4) (v := ?v26) rfl rfl (by kernel_rfl) (by kernel_rfl) (by kernel_rfl) (fun _ _ _ h => h) (Or.inl ⟨by rfl, ?h26⟩) hS ?_
  case h26 => intro W _; go_simp; try with_reducible rfl
  simp only [Act.put, List.setIfInBounds_toArray, List.set_cons_zero, List.set_cons_succ]
  refine takeH (i := 18) (d := some 5) (v := ?v27) rfl rfl (by kernel_rfl) (by kernel_rfl) (by kernel_rfl) (fun _ _ _ h => h) (Or.inl ⟨by rfl, ?h27⟩) hS ?_
  case h27 => intro W _; go_simp; try with_reducible rfl
  simp only [Act.put, List.setIfInBounds_toArray, List.set_cons_zero, List.set_cons_succ]
  refine takeH (i := 19) (d := some 6) (v := ?v28) rfl rfl (by kernel_rfl) (by kernel_rfl) (by kernel_rfl) (fun _ _ _ h => h) (Or.inl ⟨by rfl, ?h28⟩) hS ?_
  case h28 => intro W _; go_simp; try with_reducible rfl
  simp only [Act.put, List.setIfInBounds_toArray, List.set_cons_zero, List.set_cons_succ]
  refine wpAnyH_done (by kernel_rfl) ?_ _
  go_wp2
  go_ret3
  exact ⟨⟨_, _, rfl, ⟨by rw [str_add, HZ1.out]⟩, ⟨by rw [str_add, HZ2.out]⟩⟩, hS.1⟩
set_option maxRecDepth 100000 in
set_option maxHeartbeats 4000000 in
theorem ropp_neg (s : ByteArray) (S : Int) (w : World) : Calls Tryz.prog 63 #[.agg #[.bool true, .string s, .int .i64 S]] w fun e w' => e = .returned (.agg #[.bool false, .string s, .int .i64 S]) ∧ Below w.heap.size w w' := by
  go_enter Tryz.func63, Tryz.ntmps63
  go_wp2_with (first
    | (refine wl_boxA rfl (.tmp 0) rfl rfl (fun W1 b1 hb1 => ?_))
    | (refine wl_allocA rfl zero_dec rfl (fun W2 b2 hb2 => ?_); have l1 := b1.lt; have l11 := hb1.size; replace b1 := b1.keep hb2; have hB := below_step hb1 hb2; clear hb1 hb2)
    | (refine wl_loadC b1 rfl (by kernel_rfl) _ rfl (j := 0) rfl rfl ?_)
    | (refine wl_loadC b1 rfl (by kernel_rfl) _ rfl (j := 1) rfl rfl ?_)
    | (refine wl_storeC b1 rfl _ _ rfl (j := 0) rfl rfl rfl (by kernel_rfl) (by show 0 < 3; decide) rfl (fun W3 b3 hg => ?_); replace b2 := b2.far hg (by omega); have hB3 := below_far hB hB.size (by omega) hg; clear hg)
    | (refine wl_loadA (ty := 23) (cs := #[.bool false, .string s, .int .i64 S]) b3 rfl (by kernel_rfl) _ rfl rfl ?_)
    | (refine wl_storeA b2 rfl _ _ rfl rfl rfl (by kernel_rfl) rfl rfl rfl (fun W8 b8 hg => ?_); have hB8 := below_far hB3 hB3.size (by omega) hg; clear hg))
  exact bodyPost_ret (res_cell rfl b8 (by kernel_rfl) rfl) rfl ⟨rfl, hB8⟩
set_option maxRecDepth 100000 in
set_option maxHeartbeats 4000000 in
theorem ropp_zero (s : ByteArray) (S : Int) (q : (s.toList == [48]) = true) (w : World) : Calls Tryz.prog 63 #[.agg #[.bool false, .string s, .int .i64 S]] w fun e w' => e = .returned (.agg #[.bool false, .string s, .int .i64 S]) ∧ Below w.heap.size w w' := by
  have q2 : (s.toList != [48]) = false := by rw [bne, q]; rfl
  go_enter Tryz.func63, Tryz.ntmps63
  go_wp2_with (first
    | (refine wl_boxA rfl (.tmp 0) rfl rfl (fun W1 b1 hb1 => ?_))
    | (refine wl_allocA rfl zero_dec rfl (fun W2 b2 hb2 => ?_); have l1 := b1.lt; have l11 := hb1.size; replace b1 := b1.keep hb2; have hB := below_step hb1 hb2; clear hb1 hb2)
    | (refine wl_loadC b1 rfl (by kernel_rfl) _ rfl (j := 0) rfl rfl ?_)
    | (refine wl_loadC b1 rfl (by kernel_rfl) _ rfl (j := 1) rfl rfl ?_)
    | (refine wl_storeC b1 rfl _ _ rfl (j := 0) rfl rfl rfl (by kernel_rfl) (by show 0 < 3; decide) rfl (fun W3 b3 hg => ?_); replace b2 := b2.far hg (by omega); have hB3 := below_far hB hB.size (by omega) hg; clear hg)
    | (refine wl_loadA (ty := 23) (cs := #[.bool false, .string s, .int .i64 S]) b3 rfl (by kernel_rfl) _ rfl rfl ?_)
    | (refine wl_storeA b2 rfl _ _ rfl rfl rfl (by kernel_rfl) rfl rfl rfl (fun W8 b8 hg => ?_); have hB8 := below_far hB3 hB3.size (by omega) hg; clear hg))
  exact bodyPost_ret (res_cell rfl b8 (by kernel_rfl) rfl) rfl ⟨rfl, hB8⟩
set_option maxRecDepth 100000 in
set_option maxHeartbeats 4000000 in
theorem ropp_pos (s : ByteArray) (S : Int) (q : (s.toList == [48]) = false) (w : World) : Calls Tryz.prog 63 #[.agg #[.bool false, .string s, .int .i64 S]] w fun e w' => e = .returned (.agg #[.bool true, .string s, .int .i64 S]) ∧ Below w.heap.size w w' := by
  have q2 : (s.toList != [48]) = true := by rw [bne, q]; rfl
  go_enter Tryz.func63, Tryz.ntmps63
  go_wp2_with (first
    | (refine wl_boxA rfl (.tmp 0) rfl rfl (fun W1 b1 hb1 => ?_))
    | (refine wl_allocA rfl zero_dec rfl (fun W2 b2 hb2 => ?_); have l1 := b1.lt; have l11 := hb1.size; replace b1 := b1.keep hb2; have hB := below_step hb1 hb2; clear hb1 hb2)
    | (refine wl_loadC b1 rfl (by kernel_rfl) _ rfl (j := 0) rfl rfl ?_)
    | (refine wl_loadC b1 rfl (by kernel_rfl) _ rfl (j := 1) rfl rfl ?_)
    | (refine wl_storeC b1 rfl _ _ rfl (j := 0) rfl rfl rfl (by kernel_rfl) (by show 0 < 3; decide) rfl (fun W3 b3 hg => ?_); replace b2 := b2.far hg (by omega); have hB3 := below_far hB hB.size (by omega) hg; clear hg)
    | (refine wl_loadA (ty := 23) (cs := #[.bool true, .string s, .int .i64 S]) b3 rfl (by kernel_rfl) _ rfl rfl ?_)
    | (refine wl_storeA b2 rfl _ _ rfl rfl rfl (by kernel_rfl) rfl rfl rfl (fun W8 b8 hg => ?_); have hB8 := below_far hB3 hB3.size (by omega) hg; clear hg))
  exact bodyPost_ret (res_cell rfl b8 (by kernel_rfl) rfl) rfl ⟨rfl, hB8⟩
theorem ropp_any (n : Bool) (s : ByteArray) (S : Int) (w : World) : Calls Tryz.prog 63 #[.agg #[.bool n, .string s, .int .i64 S]] w fun e w' => e = .returned (.agg #[.bool (oppN n s), .string s, .int .i64 S]) ∧ Below w.heap.size w w' := by
  unfold oppN
  cases n with
  | true => exact ropp_neg s S w
  | false =>
    by_cases h : bts s = [48]
    · rw [decide_eq_false (fun g => g h)]
      exact ropp_zero s S (by rw [word_beq]; exact decide_eq_true h) w
    · rw [decide_eq_true h]
      exact ropp_pos s S (by rw [word_beq]; exact decide_eq_false h) w
set_option maxRecDepth 100000 in
set_option maxHeartbeats 8000000 in
theorem rsum_any (n m : Bool) (s t : ByteArray) (T V M : Nat) (hM : max T V = M) (hs : s.size ≤ 60) (ht : t.size ≤ 60) (hT : T ≤ 60) (hV : V ≤ 60) (hd1 : Digs s) (hd2 : Digs t) (r : Res) (hr : resOf (Dc.addD (n, Dc.val (bts s), T) (m, Dc.val (bts t), V)) = r) (w : World) : Calls Tryz.prog 62 #[.agg #[.bool n, .string s, .int .i64 (T : Int)], .agg #[.bool m, .string t, .int .i64 (V : Int)]] w fun e w' => e = .returned (.tuple #[.agg #[.bool r.n, .string r.s, .int .i64 r.S], .int .i64 r.k]) ∧ Below w.heap.size w w' := by
  have CS : Hid _ := Lib.hid (rsame_any n s T m t V M hM hs ht hT hV)
  have x1 := scaled_low (c := M - T) hs hd1.all (by omega)
  have x2 := scaled_low (c := M - V) ht hd2.all (by omega)
  obtain ⟨X, hX⟩ : ∃ X, Dc.val (bts s) * 10 ^ (M - T) = X := ⟨_, rfl⟩
  obtain ⟨Y, hY⟩ : ∃ Y, Dc.val (bts t) * 10 ^ (M - V) = Y := ⟨_, rfl⟩
  rw [hX] at x1
  rw [hY] at x2
  have R1 : Hid (n = m → resOf (Dc.can n (X + Y) M) = r) := Lib.hid (fun e => by subst e; rw [← Dc.addD_same n _ _ _ _ hM hX hY]; exact hr)
  have R2 : Hid (m = !n → X < Y → resOf (Dc.can m (Y - X) M) = r) := Lib.hid (fun e h => by subst e; rw [← Dc.addD_lt n _ _ _ _ hM hX hY h]; exact hr)
  have R3 : Hid (m = !n → Y ≤ X → resOf (Dc.can n (X - Y) M) = r) := Lib.hid (fun e h => by subst e; rw [← Dc.addD_ge n _ _ _ _ hM hX hY h]; exact hr)
  have HX : Hid (X < 10 ^ 120) := Lib.hid x1
  have HY : Hid (Y < 10 ^ 120) := Lib.hid x2
  have HEX : Hid _ := Lib.hid hX
  have HEY : Hid _ := Lib.hid hY
  have HD1 : Hid _ := Lib.hid hd1
  have HD2 : Hid _ := Lib.hid hd2
  have hMl : M ≤ 60 := by omega
  have h0 : Hid ((10 : Nat) ^ 120 + 10 ^ 120 ≤ 10 ^ 121) := Lib.hid (by rw [Nat.pow_succ 10 120]; omega)
  clear hX hY x1 x2 hr hM hd1 hd2
  go_enter Tryz.func62, Tryz.ntmps62
  go_upto_region 2 with (first
    | (refine wl_boxA rfl (.tmp 0) rfl rfl (fun W2 b2 hb2 => ?_))
    | (refine wl_boxA rfl (.tmp 1) rfl rfl (fun W3 b3 hb3 => ?_); have l2 := b2.lt; have l22 := hb2.size; replace b2 := b2.keep hb3; have l3 := b3.lt)
    | (refine wl_allocA rfl zero_dec rfl (fun W4 b4 hb4 => ?_); replace b2 := b2.keep hb4; replace b3 := b3.keep hb4; have hB := below_step (below_step hb2 hb3) hb4; clear hb2 hb3 hb4)
    | (refine wl_loadA (ty := 23) b2 rfl (by kernel_rfl) _ rfl rfl ?_)
    | (refine wl_loadA (ty := 23) b3 rfl (by kernel_rfl) _ rfl rfl ?_)
    | (go_at_call 52; refine (CS.out _).mono ?_; rintro e W5 ⟨⟨x, y, rfl, hx, hy⟩, hb⟩; replace hB := below_step hB hb; replace b2 := b2.keep hb; replace b3 := b3.keep hb; replace b4 := b4.keep hb; have DX : Hid (Digs x) := Lib.hid (hx.digs HD1.out); have DY : Hid (Digs y) := Lib.hid (hy.digs HD2.out); have VX : Hid (Dc.val (bts x) = X) := Lib.hid (hx.val.trans HEX.out); have VY : Hid (Dc.val (bts y) = Y) := Lib.hid (hy.val.trans HEY.out); have lx : x.size ≤ 120 := (by rw [hx.size]; omega); have ly : y.size ≤ 120 := (by rw [hy.size]; omega); clear hb hx hy))
  by_cases hnm : n = m
  · subst hnm
    have HR : Hid _ := Lib.hid (R1.out rfl)
    go_wp2_with (first | (refine wl_loadC b2 rfl (by kernel_rfl) _ rfl (j := 0) rfl rfl ?_) | (refine wl_loadC b3 rfl (by kernel_rfl) _ rfl (j := 0) rfl rfl ?_))
    refine wp_region_held_drew (S := fun W : World => Below w.heap.size w W ∧ Blk W w.heap.size 23 #[.bool n, .string s, .int .i64 (T : Int)] ∧ Blk W W2.heap.size 23 #[.bool n, .string t, .int .i64 (V : Int)]) (by kernel_rfl) ⟨below_step hB (below_drew _), b2.drew, b3.drew⟩ (fun hS => ?_)
    replace b4 := b4.drew
    refine takeH (i := 0) (d := some 21) (v := ?v29) rfl rfl (by kernel_rfl) (by kernel_rfl) (by kernel_rfl) (fun _ _ _ h => h) (Or.inl ⟨by rfl, ?h29⟩) hS ?_
    case h29 => intro W _; go_simp; try with_reducible rfl
    simp only [Act.put, List.setIfInBounds_toArray, List.set_cons_zero, List.set_cons_succ]
    refine takeH (i := 1) (d := some 22) (v := .bool n) rfl rfl (by kernel_rfl) (by kernel_rfl) (by kernel_rfl) (fun _ _ _ h => h) (yields_C rfl (by rfl) (by kernel_rfl) _ rfl (j := 0) rfl rfl (fun W hW => hW.2.1)) hS ?_
    simp only [Act.put, List.setIfInBounds_toArray, List.set_cons_zero, List.set_cons_succ]
    refine takeH (i := 2) (d := some 23) (v := ?v30) rfl rfl (by kernel_rfl) (by kernel_rfl) (by kernel_rfl) (fun _ _ _ h => h) (Or.inl ⟨by rfl, ?h30⟩) hS ?_
    case h30 => intro W _; go_simp; try with_reducible rfl
    simp only [Act.put, List.setIfInBounds_toArray, List.set_cons_zero, List.set_cons_succ]
    refine takeH (i := 3) (d := some 24) (v := ?v31) rfl rfl (by kernel_rfl) (by kernel_rfl) (by kernel_rfl) (fun _ _ _ h => h) (Or.inl ⟨by rfl, ?h31⟩) hS ?_
    case h31 => intro W _; go_simp; try with_reducible rfl
    simp only [Act.put, List.setIfInBounds_toArray, List.set_cons_zero, List.set_cons_succ]
    refine takeH (i := 5) (d := some 26) (v := ?v32) rfl rfl (by kernel_rfl) (by kernel_rfl) (by kernel_rfl) (fun _ _ _ h => h) (Or.inl ⟨by rfl, ?h32⟩) hS ?_
    case h32 => intro W _; go_simp; try with_reducible rfl
    simp only [Act.put, List.setIfInBounds_toArray, List.set_cons_zero, List.set_cons_succ]
    refine wpAnyH_ready (rs := [4]) (by kernel_rfl) (by simp) ?_
    refine AllReadyH.cons rfl (fun Kc hKc => ?_) AllReadyH.nil
    go_simp
    refine (rplus_any x y (by omega) (by omega) DX.out DY.out _).mono ?_
    rintro e W6 ⟨⟨u, rfl, hu⟩, hb⟩
    have HU : Hid _ := Lib.hid ((congrArg bts hu).trans (bts_digs _))
    clear hu
    replace b4 := b4.keep hb
    refine hKc.out _ _ ⟨below_step hS.1 hb, hS.2.1.keep hb, hS.2.2.keep hb⟩ (fun hS => ?_)
    clear hKc Kc
    refine wpAnyH_ready (rs := [6]) (by kernel_rfl) (by simp) ?_
    refine AllReadyH.cons rfl (fun Kc hKc => ?_) AllReadyH.nil
    go_simp
    refine (rmade_is _ u M (Nat.le_trans (digs_size (k := 121) HU.out (by rw [VX.out, VY.out]; exact Nat.lt_of_lt_of_le (Nat.add_lt_add HX.out HY.out) h0.out) (by decide)) (by decide)) (by omega) (digs_is HU.out) r (by rw [val_of HU.out, VX.out, VY.out]; exact HR.out) _).mono ?_
    rintro e W7 ⟨rfl, hb⟩
    replace b4 := b4.keep hb
    refine hKc.out _ _ ⟨below_step hS.1 hb, hS.2.1.keep hb, hS.2.2.keep hb⟩ (fun hS => ?_)
    clear hKc Kc
    refine takeH (i := 7) (d := some 28) (v := ?v33) rfl rfl (by kernel_rfl) (by kernel_rfl) (by kernel_rfl) (fun _ _ _ h => h) (Or.inl ⟨by rfl, ?h33⟩) hS ?_
    case h33 => intro W _; go_simp; try with_reducible rfl
    simp only [Act.put, List.setIfInBounds_toArray, List.set_cons_zero, List.set_cons_succ]
    refine takeH (i := 8) (d := some 29) (v := ?v34) rfl rfl (by kernel_rfl) (by kernel_rfl) (by kernel_rfl) (fun _ _ _ h => h) (Or.inl ⟨by rfl, ?h34⟩) hS ?_
    case h34 => intro W _; go_simp; try with_reducible rfl
    simp only [Act.put, List.setIfInBounds_toArray, List.set_cons_zero, List.set_cons_succ]
    refine wpAnyH_ready (rs := [9]) (by kernel_rfl) (by simp) ?_
    refine AllReadyH.cons rfl (fun Kc hKc => ?_) AllReadyH.nil
    refine st_of rfl (wp_storeA b4 _ _ rfl rfl rfl (by kernel_rfl) rfl rfl rfl (fun W8 b8 hg => ?_))
    refine hKc.out _ _ ⟨below_far hS.1 hS.1.size (by omega) hg, hS.2.1.far hg (by omega), hS.2.2.far hg (by omega)⟩ (fun hS => ?_)
    clear hKc Kc
    refine takeH (i := 10) (d := some 5) (v := ?v35) rfl rfl (by kernel_rfl) (by kernel_rfl) (by kernel_rfl) (fun _ _ _ h => h) (Or.inl ⟨by rfl, ?h35⟩) hS ?_
    case h35 => intro W _; go_simp; try with_reducible rfl
    simp only [Act.put, List.setIfInBounds_toArray, List.set_cons_zero, List.set_cons_succ]
    refine wpAnyH_done (by kernel_rfl) ?_ _
    go_wp2
    exact bodyPost_ret (res_cell_tmp rfl b8 (by kernel_rfl) rfl rfl) rfl ⟨rfl, hS.1⟩
  · obtain rfl : m = !n := by cases n <;> cases m <;> first | rfl | exact absurd rfl hnm
    have q : (n == !n) = false := by cases n <;> rfl
    clear hnm
    by_cases hlt : X < Y
    · have HR : Hid _ := Lib.hid (R2.out rfl hlt)
      have HLT : Hid _ := Lib.hid hlt
      clear hlt
      go_wp2_with (first | (refine wl_loadC b2 rfl (by kernel_rfl) _ rfl (j := 0) rfl rfl ?_) | (refine wl_loadC b3 rfl (by kernel_rfl) _ rfl (j := 0) rfl rfl ?_) | (go_at_call 58; refine (rless_true x y (by omega) (by omega) DX.out DY.out (by rw [VX.out, VY.out]; exact HLT.out) _).mono ?_; rintro e W6 ⟨rfl, rfl⟩))
      refine wp_region_held_drew (S := fun W : World => Below w.heap.size w W ∧ Blk W w.heap.size 23 #[.bool n, .string s, .int .i64 (T : Int)] ∧ Blk W W2.heap.size 23 #[.bool !n, .string t, .int .i64 (V : Int)]) (by kernel_rfl) ⟨below_step hB (below_drew _), b2.drew, b3.drew⟩ (fun hS => ?_)
      replace b4 := b4.drew
      refine takeH (i := 0) (d := some 33) (v := ?v36) rfl rfl (by kernel_rfl) (by kernel_rfl) (by kernel_rfl) (fun _ _ _ h => h) (Or.inl ⟨by rfl, ?h36⟩) hS ?_
      case h36 => intro W _; go_simp; try with_reducible rfl
      simp only [Act.put, List.setIfInBounds_toArray, List.set_cons_zero, List.set_cons_succ]
      refine takeH (i := 1) (d := some 34) (v := .bool (!n)) rfl rfl (by kernel_rfl) (by kernel_rfl) (by kernel_rfl) (fun _ _ _ h => h) (yields_C rfl (by rfl) (by kernel_rfl) _ rfl (j := 0) rfl rfl (fun W hW => hW.2.2)) hS ?_
      simp only [Act.put, List.setIfInBounds_toArray, List.set_cons_zero, List.set_cons_succ]
      refine takeH (i := 2) (d := some 35) (v := ?v37) rfl rfl (by kernel_rfl) (by kernel_rfl) (by kernel_rfl) (fun _ _ _ h => h) (Or.inl ⟨by rfl, ?h37⟩) hS ?_
      case h37 => intro W _; go_simp; try with_reducible rfl
      simp only [Act.put, List.setIfInBounds_toArray, List.set_cons_zero, List.set_cons_succ]
      refine takeH (i := 3) (d := some 36) (v := ?v38) rfl rfl (by kernel_rfl) (by kernel_rfl) (by kernel_rfl) (fun _ _ _ h => h) (Or.inl ⟨by rfl, ?h38⟩) hS ?_
      case h38 => intro W _; go_simp; try with_reducible rfl
      simp only [Act.put, List.setIfInBounds_toArray, List.set_cons_zero, List.set_cons_succ]
      refine takeH (i := 5) (d := some 38) (v := ?v39) rfl rfl (by kernel_rfl) (by kernel_rfl) (by kernel_rfl) (fun _ _ _ h => h) (Or.inl ⟨by rfl, ?h39⟩) hS ?_
      case h39 => intro W _; go_simp; try with_reducible rfl
      simp only [Act.put, List.setIfInBounds_toArray, List.set_cons_zero, List.set_cons_succ]
      refine wpAnyH_ready (rs := [4]) (by kernel_rfl) (by simp) ?_
      refine AllReadyH.cons rfl (fun Kc hKc => ?_) AllReadyH.nil
      go_simp
      refine (rminus_any y x (by omega) (by omega) DY.out DX.out (by rw [VX.out, VY.out]; exact Nat.le_of_lt HLT.out) _).mono ?_
      rintro e W6 ⟨⟨u, rfl, hu⟩, hb⟩
      have HU : Hid _ := Lib.hid ((congrArg bts hu).trans (bts_digs _))
      clear hu
      replace b4 := b4.keep hb
      refine hKc.out _ _ ⟨below_step hS.1 hb, hS.2.1.keep hb, hS.2.2.keep hb⟩ (fun hS => ?_)
      clear hKc Kc
      refine wpAnyH_ready (rs := [6]) (by kernel_rfl) (by simp) ?_
      refine AllReadyH.cons rfl (fun Kc hKc => ?_) AllReadyH.nil
      go_simp
      refine (rmade_is _ u M (Nat.le_trans (digs_size (k := 120) HU.out (by rw [VX.out, VY.out]; exact Nat.lt_of_le_of_lt (Nat.sub_le _ _) HY.out) (by decide)) (by decide)) (by omega) (digs_is HU.out) r (by rw [val_of HU.out, VX.out, VY.out]; exact HR.out) _).mono ?_
      rintro e W7 ⟨rfl, hb⟩
      replace b4 := b4.keep hb
      refine hKc.out _ _ ⟨below_step hS.1 hb, hS.2.1.keep hb, hS.2.2.keep hb⟩ (fun hS => ?_)
      clear hKc Kc
      refine takeH (i := 7) (d := some 40) (v := ?v40) rfl rfl (by kernel_rfl) (by kernel_rfl) (by kernel_rfl) (fun _ _ _ h => h) (Or.inl ⟨by rfl, ?h40⟩) hS ?_
      case h40 => intro W _; go_simp; try with_reducible rfl
      simp only [Act.put, List.setIfInBounds_toArray, List.set_cons_zero, List.set_cons_succ]
      refine takeH (i := 8) (d := some 41) (v := ?v41) rfl rfl (by kernel_rfl) (by kernel_rfl) (by kernel_rfl) (fun _ _ _ h => h) (Or.inl ⟨by rfl, ?h41⟩) hS ?_
      case h41 => intro W _; go_simp; try with_reducible rfl
      simp only [Act.put, List.setIfInBounds_toArray, List.set_cons_zero, List.set_cons_succ]
      refine wpAnyH_ready (rs := [9]) (by kernel_rfl) (by simp) ?_
      refine AllReadyH.cons rfl (fun Kc hKc => ?_) AllReadyH.nil
      refine st_of rfl (wp_storeA b4 _ _ rfl rfl rfl (by kernel_rfl) rfl rfl rfl (fun W8 b8 hg => ?_))
      refine hKc.out _ _ ⟨below_far hS.1 hS.1.size (by omega) hg, hS.2.1.far hg (by omega), hS.2.2.far hg (by omega)⟩ (fun hS => ?_)
      clear hKc Kc
      refine takeH (i := 10) (d := some 5) (v := ?v42) rfl rfl (by kernel_rfl) (by kernel_rfl) (by kernel_rfl) (fun _ _ _ h => h) (Or.inl ⟨by rfl, ?h42⟩) hS ?_
      case h42 => intro W _; go_simp; try with_reducible rfl
      simp only [Act.put, List.setIfInBounds_toArray, List.set_cons_zero, List.set_cons_succ]
      refine wpAnyH_done (by kernel_rfl) ?_ _
      go_wp2
      exact bodyPost_ret (res_cell_tmp rfl b8 (by kernel_rfl) rfl rfl) rfl ⟨rfl, hS.1⟩
    · have HR : Hid _ := Lib.hid (R3.out rfl (by omega))
      have HGE : Hid (¬ X < Y) := Lib.hid hlt
      clear hlt
      go_wp2_with (first | (refine wl_loadC b2 rfl (by kernel_rfl) _ rfl (j := 0) rfl rfl ?_) | (refine wl_loadC b3 rfl (by kernel_rfl) _ rfl (j := 0) rfl rfl ?_) | (go_at_call 58; refine (rless_false x y (by omega) (by omega) DX.out DY.out (by rw [VX.out, VY.out]; exact HGE.out) _).mono ?_; rintro e W6 ⟨rfl, rfl⟩))
      refine wp_region_held_drew (S := fun W : World => Below w.heap.size w W ∧ Blk W w.heap.size 23 #[.bool n, .string s, .int .i64 (T : Int)] ∧ Blk W W2.heap.size 23 #[.bool !n, .string t, .int .i64 (V : Int)]) (by kernel_rfl) ⟨below_step hB (below_drew _), b2.drew, b3.drew⟩ (fun hS => ?_)
      replace b4 := b4.drew
      refine takeH (i := 0) (d := some 42) (v := ?v43) rfl rfl (by kernel_rfl) (by kernel_rfl) (by kernel_rfl) (fun _ _ _ h => h) (Or.inl ⟨by rfl, ?h43⟩) hS ?_
      case h43 => intro W _; go_simp; try with_reducible rfl
      simp only [Act.put, List.setIfInBounds_toArray, List.set_cons_zero, List.set_cons_succ]
      refine takeH (i := 1) (d := some 43) (v := .bool n) rfl rfl (by kernel_rfl) (by kernel_rfl) (by kernel_rfl) (fun _ _ _ h => h) (yields_C rfl (by rfl) (by kernel_rfl) _ rfl (j := 0) rfl rfl (fun W hW => hW.2.1)) hS ?_
      simp only [Act.put, List.setIfInBounds_toArray, List.set_cons_zero, List.set_cons_succ]
      refine takeH (i := 2) (d := some 44) (v := ?v44) rfl rfl (by kernel_rfl) (by kernel_rfl) (by kernel_rfl) (fun _ _ _ h => h) (Or.inl ⟨by rfl, ?h44⟩) hS ?_
      case h44 => intro W _; go_simp; try with_reducible rfl
      simp only [Act.put, List.setIfInBounds_toArray, List.set_cons_zero, List.set_cons_succ]
      refine takeH (i := 3) (d := some 45) (v := ?v45) rfl rfl (by kernel_rfl) (by kernel_rfl) (by kernel_rfl) (fun _ _ _ h => h) (Or.inl ⟨by rfl, ?h45⟩) hS ?_
      case h45 => intro W _; go_simp; try with_reducible rfl
      simp only [Act.put, List.setIfInBounds_toArray, List.set_cons_zero, List.set_cons_succ]
      refine takeH (i := 5) (d := some 47) (v := ?v46) rfl rfl (by kernel_rfl) (by kernel_rfl) (by kernel_rfl) (fun _ _ _ h => h) (Or.inl ⟨by rfl, ?h46⟩) hS ?_
      case h46 => intro W _; go_simp; try with_reducible rfl
      simp only [Act.put, List.setIfInBounds_toArray, List.set_cons_zero, List.set_cons_succ]
      refine wpAnyH_ready (rs := [4]) (by kernel_rfl) (by simp) ?_
      refine AllReadyH.cons rfl (fun Kc hKc => ?_) AllReadyH.nil
      go_simp
      refine (rminus_any x y (by omega) (by omega) DX.out DY.out (by rw [VX.out, VY.out]; have := HGE.out; omega) _).mono ?_
      rintro e W6 ⟨⟨u, rfl, hu⟩, hb⟩
      have HU : Hid _ := Lib.hid ((congrArg bts hu).trans (bts_digs _))
      clear hu
      replace b4 := b4.keep hb
      refine hKc.out _ _ ⟨below_step hS.1 hb, hS.2.1.keep hb, hS.2.2.keep hb⟩ (fun hS => ?_)
      clear hKc Kc
      refine wpAnyH_ready (rs := [6]) (by kernel_rfl) (by simp) ?_
      refine AllReadyH.cons rfl (fun Kc hKc => ?_) AllReadyH.nil
      go_simp
      refine (rmade_is _ u M (Nat.le_trans (digs_size (k := 120) HU.out (by rw [VX.out, VY.out]; exact Nat.lt_of_le_of_lt (Nat.sub_le _ _) HX.out) (by decide)) (by decide)) (by omega) (digs_is HU.out) r (by rw [val_of HU.out, VX.out, VY.out]; exact HR.out) _).mono ?_
      rintro e W7 ⟨rfl, hb⟩
      replace b4 := b4.keep hb
      refine hKc.out _ _ ⟨below_step hS.1 hb, hS.2.1.keep hb, hS.2.2.keep hb⟩ (fun hS => ?_)
      clear hKc Kc
      refine takeH (i := 7) (d := some 49) (v := ?v47) rfl rfl (by kernel_rfl) (by kernel_rfl) (by kernel_rfl) (fun _ _ _ h => h) (Or.inl ⟨by rfl, ?h47⟩) hS ?_
      case h47 => intro W _; go_simp; try with_reducible rfl
      simp only [Act.put, List.setIfInBounds_toArray, List.set_cons_zero, List.set_cons_succ]
      refine takeH (i := 8) (d := some 50) (v := ?v48) rfl rfl (by kernel_rfl) (by kernel_rfl) (by kernel_rfl) (fun _ _ _ h => h) (Or.inl ⟨by rfl, ?h48⟩) hS ?_
      case h48 => intro W _; go_simp; try with_reducible rfl
      simp only [Act.put, List.setIfInBounds_toArray, List.set_cons_zero, List.set_cons_succ]
      refine wpAnyH_ready (rs := [9]) (by kernel_rfl) (by simp) ?_
      refine AllReadyH.cons rfl (fun Kc hKc => ?_) AllReadyH.nil
      refine st_of rfl (wp_storeA b4 _ _ rfl rfl rfl (by kernel_rfl) rfl rfl rfl (fun W8 b8 hg => ?_))
      refine hKc.out _ _ ⟨below_far hS.1 hS.1.size (by omega) hg, hS.2.1.far hg (by omega), hS.2.2.far hg (by omega)⟩ (fun hS => ?_)
      clear hKc Kc
      refine takeH (i := 10) (d := some 5) (v := ?v49) rfl rfl (by kernel_rfl) (by kernel_rfl) (by kernel_rfl) (fun _ _ _ h => h) (Or.inl ⟨by rfl, ?h49⟩) hS ?_
      case h49 => intro W _; go_simp; try with_reducible rfl
      simp only [Act.put, List.setIfInBounds_toArray, List.set_cons_zero, List.set_cons_succ]
      refine wpAnyH_done (by kernel_rfl) ?_ _
      go_wp2
      exact bodyPost_ret (res_cell_tmp rfl b8 (by kernel_rfl) rfl rfl) rfl ⟨rfl, hS.1⟩
end Go.Proofs.YthmmjihldkjhhaaGreatDoor
