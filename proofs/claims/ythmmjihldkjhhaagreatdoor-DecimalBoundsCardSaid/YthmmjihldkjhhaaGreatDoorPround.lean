/-
  What Round of the program returns.
-/
import Derived.Test.YthmmjihldkjhhaaGreatDoorPcmpd
import Derived.Test.YthmmjihldkjhhaaGreatDoorRround
namespace Go.Proofs.YthmmjihldkjhhaaGreatDoor
open Go Go.RowKit

theorem pcmp_k (a b : List Nat) (ha : Num a) (hb : Num b) (X Y : Nat) (hX : Dc.valB a = X) (hY : Dc.valB b = Y) (z : Int) (hz : cmpI X Y = z) (w : World) : Calls Tryz.prog 56 #[.agg (numV a), .agg (numV b)] w fun e w' => e = .returned (.int .i64 z) ∧ Below w.heap.size w w' := by
  subst hX; subst hY; subst hz
  exact pcmp_any a b ha hb w
theorem num_first {Q : List Nat} (h : Num Q) : ∃ q0 : Nat, q0 < 4294967296 ∧ q0 % 2 = Dc.valB Q % 2 ∧ Q.getD 0 0 = q0 := by
  cases Q with
  | nil => have := h.len; simp at this
  | cons d r =>
    have h1 := h.low d (List.mem_cons_self ..)
    exact ⟨d, by omega, by rw [Dc.valB]; omega, rfl⟩
set_option maxRecDepth 100000 in
set_option maxHeartbeats 4000000 in
theorem pRound_no (n : Bool) (s : ByteArray) (S : Int) (K : Int) (hs : s.size ≤ 1000000) (hk : okB n s S = false) (w : World) : Calls Tryz.prog 19 #[.agg #[.bool n, .string s, .int .i64 S], .int .i64 K] w fun e w' => e = argR.ret ∧ Below w.heap.size w w' := by
  have C : Hid _ := Lib.hid (pchecked1_no n s S hs hk)
  clear hk
  go_enter Tryz.func19, Tryz.ntmps19
  go_wp2_with (first
    | (refine wl_boxA rfl (.tmp 0) rfl rfl (fun W2 b2 hb2 => ?_))
    | (refine wl_allocA rfl zero_dec rfl (fun W4 b4 hb4 => ?_); have l2 := b2.lt; have l22 := hb2.size; replace b2 := b2.keep hb4; have hB := below_step hb2 hb4; clear hb2 hb4)
    | (refine wl_loadA (ty := 23) b2 rfl (by kernel_rfl) _ rfl rfl ?_)
    | (go_at_call 43; refine (C.out _ _ (by simp [World.cell?_alloc_new]) (by simp [World.cell?_alloc_new]) (by simp [World.cell?_alloc_new])).mono ?_; rintro e W5 ⟨rfl, hb⟩; replace hB := below_step (below_step hB (below_new _ _)) hb; replace b2 := (Blk.old b2 _).keep hb; replace b4 := (Blk.old b4 _).keep hb; clear hb)
    | (refine wl_storeA b4 rfl _ _ rfl rfl rfl (by kernel_rfl) rfl rfl rfl (fun W8 b8 hg => ?_); have hB8 := below_far hB hB.size (by omega) hg; clear hg))
  exact bodyPost_ret (res_cell_tmp rfl b8 (by kernel_rfl) rfl rfl) rfl ⟨rfl, hB8⟩
set_option maxRecDepth 100000 in
set_option maxHeartbeats 4000000 in
theorem pRound_non (n : Bool) (s : ByteArray) (S : Int) (K : Int) (hs : s.size ≤ 1000000) (hk : okB n s S = true) (d1 : decide (K < 0) = true) (w : World) : Calls Tryz.prog 19 #[.agg #[.bool n, .string s, .int .i64 S], .int .i64 K] w fun e w' => e = argR.ret ∧ Below w.heap.size w w' := by
  have C : Hid _ := Lib.hid (pchecked1_yes n s S hs hk)
  clear hk
  go_enter Tryz.func19, Tryz.ntmps19
  go_wp2_with (first
    | (refine wl_boxA rfl (.tmp 0) rfl rfl (fun W2 b2 hb2 => ?_))
    | (refine wl_allocA rfl zero_dec rfl (fun W4 b4 hb4 => ?_); have l2 := b2.lt; have l22 := hb2.size; replace b2 := b2.keep hb4; have hB := below_step hb2 hb4; clear hb2 hb4)
    | (refine wl_loadA (ty := 23) b2 rfl (by kernel_rfl) _ rfl rfl ?_)
    | (go_at_call 43; refine (C.out _ _ (by simp [World.cell?_alloc_new]) (by simp [World.cell?_alloc_new]) (by simp [World.cell?_alloc_new])).mono ?_; rintro e W5 ⟨rfl, hb⟩; replace hB := below_step (below_step hB (below_new _ _)) hb; replace b2 := (Blk.old b2 _).keep hb; replace b4 := (Blk.old b4 _).keep hb; clear hb)
    | (refine wl_storeA b4 rfl _ _ rfl rfl rfl (by kernel_rfl) rfl rfl rfl (fun W8 b8 hg => ?_); have hB8 := below_far hB hB.size (by omega) hg; clear hg))
  exact bodyPost_ret (res_cell_tmp rfl b8 (by kernel_rfl) rfl rfl) rfl ⟨rfl, hB8⟩
set_option maxRecDepth 100000 in
set_option maxHeartbeats 4000000 in
theorem pRound_now (n : Bool) (s : ByteArray) (S : Int) (K : Int) (hs : s.size ≤ 1000000) (hk : okB n s S = true) (d1 : decide (K < 0) = false) (d2 : decide (60 < K) = true) (w : World) : Calls Tryz.prog 19 #[.agg #[.bool n, .string s, .int .i64 S], .int .i64 K] w fun e w' => e = argR.ret ∧ Below w.heap.size w w' := by
  have C : Hid _ := Lib.hid (pchecked1_yes n s S hs hk)
  clear hk
  go_enter Tryz.func19, Tryz.ntmps19
  go_wp2_with (first
    | (refine wl_boxA rfl (.tmp 0) rfl rfl (fun W2 b2 hb2 => ?_))
    | (refine wl_allocA rfl zero_dec rfl (fun W4 b4 hb4 => ?_); have l2 := b2.lt; have l22 := hb2.size; replace b2 := b2.keep hb4; have hB := below_step hb2 hb4; clear hb2 hb4)
    | (refine wl_loadA (ty := 23) b2 rfl (by kernel_rfl) _ rfl rfl ?_)
    | (go_at_call 43; refine (C.out _ _ (by simp [World.cell?_alloc_new]) (by simp [World.cell?_alloc_new]) (by simp [World.cell?_alloc_new])).mono ?_; rintro e W5 ⟨rfl, hb⟩; replace hB := below_step (below_step hB (below_new _ _)) hb; replace b2 := (Blk.old b2 _).keep hb; replace b4 := (Blk.old b4 _).keep hb; clear hb)
    | (refine wl_storeA b4 rfl _ _ rfl rfl rfl (by kernel_rfl) rfl rfl rfl (fun W8 b8 hg => ?_); have hB8 := below_far hB hB.size (by omega) hg; clear hg))
  exact bodyPost_ret (res_cell_tmp rfl b8 (by kernel_rfl) rfl rfl) rfl ⟨rfl, hB8⟩
set_option maxRecDepth 100000 in
set_option maxHeartbeats 4000000 in
theorem pRound_same (n : Bool) (s : ByteArray) (T : Nat) (K : Nat) (hs : s.size ≤ 1000000) (hle : T ≤ K) (hK : K ≤ 60) (hk : okB n s (T : Int) = true) (w : World) : Calls Tryz.prog 19 #[.agg #[.bool n, .string s, .int .i64 (T : Int)], .int .i64 (K : Int)] w fun e w' => e = .returned (.tuple #[.agg #[.bool n, .string s, .int .i64 (T : Int)], .int .i64 0]) ∧ Below w.heap.size w w' := by
  have C := Lib.hid (pchecked1_yes n s (T : Int) hs hk)
  have d1 : decide ((K : Int) < 0) = false := decide_eq_false (by omega)
  have d2 : decide (60 < (K : Int)) = false := decide_eq_false (by omega)
  have d3 : decide (T ≤ K) = true := decide_eq_true (by omega)
  clear hk hle
  go_enter Tryz.func19, Tryz.ntmps19
  go_wp2_with (first
    | (refine wl_boxA rfl (.tmp 0) rfl rfl (fun W2 b2 hb2 => ?_))
    | (refine wl_allocA rfl zero_dec rfl (fun W4 b4 hb4 => ?_); have l2 := b2.lt; have l22 := hb2.size; replace b2 := b2.keep hb4; have hB := below_step hb2 hb4; clear hb2 hb4)
    | (refine wl_loadA (ty := 23) b2 rfl (by kernel_rfl) _ rfl rfl ?_)
    | (go_at_call 43; refine (C.out _ _ (by simp [World.cell?_alloc_new]) (by simp [World.cell?_alloc_new]) (by simp [World.cell?_alloc_new])).mono ?_; rintro e W5 ⟨rfl, hb⟩; replace hB := below_step (below_step hB (below_new _ _)) hb; replace b2 := (Blk.old b2 _).keep hb; replace b4 := (Blk.old b4 _).keep hb; clear hb)
    | (refine wl_loadC b2 rfl (by kernel_rfl) _ rfl (j := 0) rfl rfl ?_)
    | (refine wl_loadC b2 rfl (by kernel_rfl) _ rfl (j := 1) rfl rfl ?_)
    | (refine wl_loadC b2 rfl (by kernel_rfl) _ rfl (j := 2) rfl rfl ?_)
    | (refine wl_storeA b4 rfl _ _ rfl rfl rfl (by kernel_rfl) rfl rfl rfl (fun W8 b8 hg => ?_); have hB8 := below_far hB hB.size (by omega) hg; clear hg))
  exact bodyPost_ret (res_cell_tmp rfl b8 (by kernel_rfl) rfl rfl) rfl ⟨rfl, hB8⟩
set_option maxRecDepth 100000 in
set_option maxHeartbeats 4000000 in
theorem pRound_A (n : Bool) (s : ByteArray) (T K c : Nat) (hc : T - K = c) (hlt : K < T) (hs : s.size ≤ 60) (hT : T ≤ 60) (hd : Digs s) (hk : okB n s (T : Int) = true) (hA : 10 ^ c < 2 * (Dc.val (bts s) % 10 ^ c)) (r : Res) (hr : resOf (Dc.can n (Dc.val (bts s) / 10 ^ c + 1) K) = r) (w : World) (hP : Pow w) : Calls Tryz.prog 19 #[.agg #[.bool n, .string s, .int .i64 (T : Int)], .int .i64 (K : Int)] w fun e w' => e = .returned (.tuple #[.agg #[.bool r.n, .string r.s, .int .i64 r.S], .int .i64 r.k]) ∧ Below w.heap.size w w' := by
  have C := Lib.hid (pchecked1_yes n s (T : Int) (by omega) hk)
  have d1 : decide ((K : Int) < 0) = false := decide_eq_false (by omega)
  have d2 : decide (60 < (K : Int)) = false := decide_eq_false (by omega)
  have d3 : decide (T ≤ K) = false := decide_eq_false (by omega)
  have hci : (T : Int) - (K : Int) = (c : Int) := by omega
  have hcw : IntKind.i64.wrap ((T : Int) - (K : Int)) = (c : Int) := by rw [IntKind.wrap_i64]; omega
  have hcl : c ≤ 60 := by omega
  have hKl : K ≤ 60 := by omega
  have CZ := Lib.hid (repeat_zeros c (by omega))
  have HDI := Lib.hid hd.all
  have HP : Hid _ := Lib.hid hP
  have hvl := Dc.val_lt hd.all
  rw [bts_length] at hvl
  obtain ⟨V, hV⟩ : ∃ V, Dc.val (bts s) = V := ⟨_, rfl⟩
  rw [hV] at hA hr hvl
  obtain ⟨Q, hQ⟩ : ∃ Q, V / 10 ^ c = Q := ⟨_, rfl⟩
  obtain ⟨R, hR⟩ : ∃ R, V % 10 ^ c = R := ⟨_, rfl⟩
  rw [hR] at hA
  rw [hQ] at hr
  have HA : Hid (cmpI (2 * R) (10 ^ c) = 1) := Lib.hid (by unfold cmpI; rw [if_neg (by omega), if_pos hA])
  have HRS := Lib.hid hr
  have HV := Lib.hid hV
  have HQ := Lib.hid hQ
  have HR := Lib.hid hR
  have H60 : Hid ((10 : Nat) ^ c ≤ 10 ^ 60) := Lib.hid (Nat.pow_le_pow_right (by decide) hcl)
  have HQL : Hid (Q < 10 ^ 60) := Lib.hid (by rw [← hQ]; exact Nat.lt_of_le_of_lt (Nat.div_le_self _ _) (Nat.lt_of_lt_of_le hvl (Nat.pow_le_pow_right (by decide) hs)))
  have HRL : Hid (R < 10 ^ 60) := Lib.hid (by rw [← hR]; exact Nat.lt_of_le_of_lt (Nat.mod_le _ _) (Nat.lt_of_lt_of_le hvl (Nat.pow_le_pow_right (by decide) hs)))
  have HTP : Hid ((10 : Nat) ^ 60 * 10 ≤ top ∧ (10 : Nat) ^ 60 + 10 ^ 60 < top ∧ (10 : Nat) ^ 60 + 1 < top ∧ (10 : Nat) ^ 60 + 1 ≤ 10 ^ 61) := Lib.hid (by rw [top_pow]; refine ⟨by decide, by decide, by decide, by decide⟩)
  clear hc hd hk hA hr hvl hV hQ hR hlt hP
  have tok6 : True := trivial
  have tok7 : True := trivial
  have tok8 : True := trivial
  go_enter Tryz.func19, Tryz.ntmps19
  go_upto_region 7 with (first
    | (refine wl_boxA rfl (.tmp 0) rfl rfl (fun W2 b2 hb2 => ?_))
    | (refine wl_allocA rfl zero_dec rfl (fun W4 b4 hb4 => ?_); have l2 := b2.lt; have l22 := hb2.size; replace b2 := b2.keep hb4; have hB := below_step hb2 hb4; clear hb2 hb4)
    | (refine wl_loadA (ty := 23) b2 rfl (by kernel_rfl) _ rfl rfl ?_)
    | (go_at_call 43; refine (C.out _ _ (by simp [World.cell?_alloc_new]) (by simp [World.cell?_alloc_new]) (by simp [World.cell?_alloc_new])).mono ?_; rintro e W5 ⟨rfl, hb⟩; replace hB := below_step (below_step hB (below_new _ _)) hb; replace b2 := (Blk.old b2 _).keep hb; replace b4 := (Blk.old b4 _).keep hb; clear hb)
    | (refine wl_loadC b2 rfl (by kernel_rfl) _ rfl (j := 0) rfl rfl ?_)
    | (refine wl_loadC b2 rfl (by kernel_rfl) _ rfl (j := 1) rfl rfl ?_)
    | (refine wl_loadC b2 rfl (by kernel_rfl) _ rfl (j := 2) rfl rfl ?_)
    | (go_at_call 44; refine (CZ.out _).mono ?_; rintro e W6 ⟨⟨z, rfl, hz⟩, hb⟩; replace hB := below_step hB hb; replace b2 := b2.keep hb; replace b4 := b4.keep hb; have zl : z.size ≤ 60 := (by rw [← bts_length, hz, List.length_replicate]; omega); obtain ⟨un, hun⟩ : ∃ un, (⟨#[49]⟩ : ByteArray) ++ z = un := ⟨_, rfl⟩; have HUN := Lib.hid (show bts un = Dc.digs (10 ^ c) by rw [ten_digs, ← hun, str_add, hz]; rfl); have unl : un.size ≤ 61 := (by rw [← bts_length, HUN.out, ten_digs, List.length_cons, List.length_replicate]; omega); clear hz hb)
    | (go_at_call 54; refine (pparse_any un (by omega) (digs_all HUN.out) _).mono ?_; rintro e W7 ⟨⟨U, rfl, hU, hUv⟩, hb⟩; replace hB := below_step hB hb; replace b2 := b2.keep hb; replace b4 := b4.keep hb; have HU := Lib.hid (show Num U ∧ Dc.valB U = 10 ^ c from ⟨hU, by rw [hUv, val_of HUN.out]⟩); have Ul := hU.len; clear hU hUv hb)
    | (have _t := tok6; refine wl_allocA rfl zero_num rfl (fun W16 a6 hb => ?_); have q6 := And.intro b2.lt (And.intro b4.lt hB.size); replace hB := below_step hB hb; replace b2 := b2.keep hb; replace b4 := b4.keep hb; have z6 := numV_size (List.replicate 24 0); clear hb tok6 _t)
    | (refine wl_storeA a6 rfl _ _ rfl rfl rfl (agg_num Ul) (by rw [numV_size, numV_size, Ul]; rfl) (numV_oneL U) rfl (fun W26 e6 hg => ?_); replace b2 := b2.far hg (by omega); replace b4 := b4.far hg (by omega); replace hB := below_far hB hB.size (by omega) hg; have r6 : Row24 W26 _ U := ⟨e6, Ul⟩; clear hg a6 e6)
    | (refine wl_loadA r6.blk rfl (agg_num Ul) _ rfl rfl ?_)
    | (go_at_call 49; refine (pover_any s U (by omega) HDI.out HU.out.1 (by rw [HU.out.2]; exact Dc.pow10_pos c) (by rw [HU.out.2]; exact Nat.le_trans (Nat.mul_le_mul_right _ H60.out) HTP.out.1) _).mono ?_; rintro e W8 ⟨⟨A, B, rfl, hA, hB3, hAv, hBv⟩, hb⟩; replace hB := below_step hB hb; replace b2 := b2.keep hb; replace b4 := b4.keep hb; replace r6 := r6.keep hb; have HAA := Lib.hid (show Num A ∧ Dc.valB A = Q from ⟨hA, by rw [hAv, HU.out.2, HV.out, HQ.out]⟩); have HBB := Lib.hid (show Num B ∧ Dc.valB B = R from ⟨hB3, by rw [hBv, HU.out.2, HV.out, HR.out]⟩); have Al := hA.len; have Bl := hB3.len; clear hA hB3 hAv hBv hb)
    | (have _t := tok7; refine wl_allocA rfl zero_num rfl (fun W17 a7 hb => ?_); have q7 := And.intro b2.lt (And.intro b4.lt r6.lt); replace hB := below_step hB hb; replace b2 := b2.keep hb; replace b4 := b4.keep hb; replace r6 := r6.keep hb; have z7 := numV_size (List.replicate 24 0); clear hb tok7 _t)
    | (have _t := tok8; refine wl_allocA rfl zero_num rfl (fun W18 a8 hb => ?_); have q8 := And.intro b2.lt (And.intro b4.lt (And.intro r6.lt a7.lt)); replace hB := below_step hB hb; replace b2 := b2.keep hb; replace b4 := b4.keep hb; replace r6 := r6.keep hb; replace a7 := a7.keep hb; have z8 := numV_size (List.replicate 24 0); clear hb tok8 _t)
    | (refine wl_storeA a7 rfl _ _ rfl rfl rfl (agg_num Al) (by rw [numV_size, numV_size, Al]; rfl) (numV_oneL A) rfl (fun W27 e7 hg => ?_); replace b2 := b2.far hg (by omega); replace b4 := b4.far hg (by omega); replace r6 := r6.far hg (by omega); replace a8 := a8.far hg (by omega); replace hB := below_far hB hB.size (by omega) hg; have r7 : Row24 W27 _ A := ⟨e7, Al⟩; clear hg a7 e7)
    | (refine wl_storeA a8 rfl _ _ rfl rfl rfl (agg_num Bl) (by rw [numV_size, numV_size, Bl]; rfl) (numV_oneL B) rfl (fun W28 e8 hg => ?_); replace b2 := b2.far hg (by omega); replace b4 := b4.far hg (by omega); replace r6 := r6.far hg (by omega); replace r7 := r7.far hg (by omega); replace hB := below_far hB hB.size (by omega) hg; have r8 : Row24 W28 _ B := ⟨e8, Bl⟩; clear hg a8 e8))
  refine wp_region_held_drew (S := fun W : World => Below w.heap.size w W ∧ Blk W w.heap.size 23 #[.bool n, .string s, .int .i64 (T : Int)] ∧ Blk W W2.heap.size 23 #[.bool false, .string ⟨#[]⟩, .int .i64 0] ∧ Row24 W W7.heap.size U ∧ Row24 W W8.heap.size A ∧ Row24 W W17.heap.size B) (by kernel_rfl) ⟨below_step hB (below_drew _), b2.drew, b4.drew, r6.drewR, r7.drewR, r8.drewR⟩ (fun hS => ?_)
  refine takeH (i := 0) (d := some 42) (v := _) rfl rfl (by kernel_rfl) (by kernel_rfl) (by kernel_rfl) (fun _ _ _ h => h) (yields_A rfl (by rfl) (agg_num Bl) _ rfl rfl (fun W hW => hW.2.2.2.2.2.blk)) hS ?_
  simp only [Act.put, List.setIfInBounds_toArray, List.set_cons_zero, List.set_cons_succ]
  refine takeH (i := 1) (d := some 43) (v := _) rfl rfl (by kernel_rfl) (by kernel_rfl) (by kernel_rfl) (fun _ _ _ h => h) (yields_A rfl (by rfl) (agg_num Bl) _ rfl rfl (fun W hW => hW.2.2.2.2.2.blk)) hS ?_
  simp only [Act.put, List.setIfInBounds_toArray, List.set_cons_zero, List.set_cons_succ]
  refine takeH (i := 3) (d := some 45) (v := _) rfl rfl (by kernel_rfl) (by kernel_rfl) (by kernel_rfl) (fun _ _ _ h => h) (yields_A rfl (by rfl) (agg_num Ul) _ rfl rfl (fun W hW => hW.2.2.2.1.blk)) hS ?_
  simp only [Act.put, List.setIfInBounds_toArray, List.set_cons_zero, List.set_cons_succ]
  refine wpAnyH_ready (rs := [2]) (by kernel_rfl) (by simp) ?_
  refine AllReadyH.cons rfl (fun Kc hKc => ?_) AllReadyH.nil
  go_simp
  refine (pplus_any B B HBB.out.1 HBB.out.1 _).mono ?_
  rintro e W9 ⟨⟨O, rfl, hO, hOv⟩, hb⟩
  have HOO := Lib.hid (show Num O ∧ Dc.valB O = 2 * R by have h1 := HRL.out; have h2 := HTP.out.2.1; exact ⟨hO, by rw [hOv, HBB.out.2, Nat.mod_eq_of_lt (by omega), Nat.two_mul]⟩)
  clear hO hOv
  refine hKc.out _ _ ⟨below_step hS.1 hb, hS.2.1.keep hb, hS.2.2.1.keep hb, hS.2.2.2.1.keep hb, hS.2.2.2.2.1.keep hb, hS.2.2.2.2.2.keep hb⟩ (fun hS => ?_)
  clear hKc Kc
  refine wpAnyH_ready (rs := [4]) (by kernel_rfl) (by simp) ?_
  refine AllReadyH.cons rfl (fun Kc hKc => ?_) AllReadyH.nil
  go_simp
  refine (pcmp_k O U HOO.out.1 HU.out.1 _ _ HOO.out.2 HU.out.2 1 HA.out _).mono ?_
  rintro e W10 ⟨rfl, hb⟩
  refine hKc.out _ _ ⟨below_step hS.1 hb, hS.2.1.keep hb, hS.2.2.1.keep hb, hS.2.2.2.1.keep hb, hS.2.2.2.2.1.keep hb, hS.2.2.2.2.2.keep hb⟩ (fun hS => ?_)
  clear hKc Kc
  refine takeH (i := 5) (d := some 9) (v := ?v15) rfl rfl (by kernel_rfl) (by kernel_rfl) (by kernel_rfl) (fun _ _ _ h => h) (Or.inl ⟨by rfl, ?h15⟩) hS ?_
  case h15 => intro W _; go_simp; try with_reducible rfl
  simp only [Act.put, List.setIfInBounds_toArray, List.set_cons_zero, List.set_cons_succ]
  refine wpAnyH_done (by kernel_rfl) ?_ _
  clear b2 b4 r6 r7 r8 hB
  obtain ⟨hB, b2, b4, r6, r7, r8⟩ := hS
  go_wp2_with fail
  have a7 := r7.blk
  clear r7
  refine wp_region_held_drew (S := fun W : World => Below w.heap.size w W ∧ Blk W w.heap.size 23 #[.bool n, .string s, .int .i64 (T : Int)] ∧ Blk W W2.heap.size 23 #[.bool false, .string ⟨#[]⟩, .int .i64 0]) (by kernel_rfl) ⟨below_step hB (below_drew _), b2.drew, b4.drew⟩ (fun hS => ?_)
  replace a7 := a7.drew
  refine wpAnyH_ready (rs := [0, 1]) (by kernel_rfl) (by simp) ?_
  refine AllReadyH.cons rfl (fun Kc hKc => ?_) ?_
  ·   skip
      refine st_of rfl (wp_loadA a7 (agg_num Al) _ rfl rfl ?_)
      refine hKc.out _ _ ⟨below_step hS.1 (Below.refl _ _), hS.2.1.keep (Below.refl _ _), hS.2.2.keep (Below.refl _ _)⟩ (fun hS => ?_)
      clear hKc Kc
      simp only [Act.put, List.setIfInBounds_toArray]
      refine wpAnyH_ready (rs := [1]) (by kernel_rfl) (by simp) ?_
      refine AllReadyH.cons rfl (fun Kc hKc => ?_) AllReadyH.nil
      go_simp
      refine (pparse_any ⟨#[49]⟩ (by decide) (by decide) _).mono ?_
      rintro e W21 ⟨⟨E1, rfl, hE, hEv⟩, hb⟩
      have HE := Lib.hid (show Num E1 ∧ Dc.valB E1 = 1 from ⟨hE, by rw [hEv]; rfl⟩)
      clear hE hEv
      replace a7 := a7.keep hb
      refine hKc.out _ _ ⟨below_step hS.1 hb, hS.2.1.keep hb, hS.2.2.keep hb⟩ (fun hS => ?_)
      clear hKc Kc
      refine wpAnyH_ready (rs := [2]) (by kernel_rfl) (by simp) ?_
      refine AllReadyH.cons rfl (fun Kc hKc => ?_) AllReadyH.nil
      go_simp
      refine (pplus_any A E1 HAA.out.1 HE.out.1 _).mono ?_
      rintro e W22 ⟨⟨F, rfl, hF, hFv⟩, hb⟩
      have HF := Lib.hid (show Num F ∧ Dc.valB F = Q + 1 by have h1 := HQL.out; have h2 := HTP.out.2.2.1; exact ⟨hF, by rw [hFv, HAA.out.2, HE.out.2, Nat.mod_eq_of_lt (by omega)]⟩)
      have Fl := hF.len
      clear hF hFv
      replace a7 := a7.keep hb
      refine hKc.out _ _ ⟨below_step hS.1 hb, hS.2.1.keep hb, hS.2.2.keep hb⟩ (fun hS => ?_)
      clear hKc Kc
      refine wpAnyH_ready (rs := [3]) (by kernel_rfl) (by simp) ?_
      refine AllReadyH.cons rfl (fun Kc hKc => ?_) AllReadyH.nil
      refine st_of rfl (wp_storeA a7 _ _ rfl rfl rfl (agg_num Fl) (by rw [numV_size, numV_size, Fl, Al]) (numV_oneL F) rfl (fun W23 e7 hg => ?_))
      refine hKc.out _ _ ⟨below_far hS.1 hS.1.size (by omega) hg, hS.2.1.far hg (by omega), hS.2.2.far hg (by omega)⟩ (fun hS => ?_)
      clear hKc Kc
      refine wpAnyH_done (by kernel_rfl) ?_ _
      clear b2 b4 hB
      obtain ⟨hB, b2, b4⟩ := hS
      have r7 : Row24 _ _ F := ⟨e7, Fl⟩
      go_wp2_with fail
      refine wp_region_held_drew (S := fun W : World => Below w.heap.size w W ∧ Blk W w.heap.size 23 #[.bool n, .string s, .int .i64 (T : Int)] ∧ Row24 W W8.heap.size F) (by kernel_rfl) ⟨below_step hB (below_drew _), b2.drew, r7.drewR⟩ (fun hS => ?_)
      replace b4 := b4.drew
      refine takeH (i := 0) (d := some 62) (v := ?v16) rfl rfl (by kernel_rfl) (by kernel_rfl) (by kernel_rfl) (fun _ _ _ h => h) (Or.inl ⟨by rfl, ?h16⟩) hS ?_
      case h16 => intro W _; go_simp; try with_reducible rfl
      simp only [Act.put, List.setIfInBounds_toArray, List.set_cons_zero, List.set_cons_succ]
      refine takeH (i := 1) (d := some 63) (v := .bool n) rfl rfl (by kernel_rfl) (by kernel_rfl) (by kernel_rfl) (fun _ _ _ h => h) (yields_C rfl (by rfl) (by kernel_rfl) _ rfl (j := 0) rfl rfl (fun W hW => hW.2.1)) hS ?_
      simp only [Act.put, List.setIfInBounds_toArray, List.set_cons_zero, List.set_cons_succ]
      refine takeH (i := 2) (d := some 64) (v := _) rfl rfl (by kernel_rfl) (by kernel_rfl) (by kernel_rfl) (fun _ _ _ h => h) (yields_A rfl (by rfl) (agg_num Fl) _ rfl rfl (fun W hW => hW.2.2.blk)) hS ?_
      simp only [Act.put, List.setIfInBounds_toArray, List.set_cons_zero, List.set_cons_succ]
      refine takeH (i := 4) (d := some 66) (v := ?v17) rfl rfl (by kernel_rfl) (by kernel_rfl) (by kernel_rfl) (fun _ _ _ h => h) (Or.inl ⟨by rfl, ?h17⟩) hS ?_
      case h17 => intro W _; go_simp; try with_reducible rfl
      simp only [Act.put, List.setIfInBounds_toArray, List.set_cons_zero, List.set_cons_succ]
      refine wpAnyH_ready (rs := [3]) (by kernel_rfl) (by simp) ?_
      refine AllReadyH.cons rfl (fun Kc hKc => ?_) AllReadyH.nil
      go_simp
      refine (pdigits_any F HF.out.1 _ (HP.out.keep hS.1)).mono ?_
      rintro e W31 ⟨⟨u, rfl, hu⟩, hb⟩
      have HUU := Lib.hid hu
      clear hu
      replace b4 := b4.keep hb
      refine hKc.out _ _ ⟨below_step hS.1 hb, hS.2.1.keep hb, hS.2.2.keep hb⟩ (fun hS => ?_)
      clear hKc Kc
      refine wpAnyH_ready (rs := [5]) (by kernel_rfl) (by simp) ?_
      refine AllReadyH.cons rfl (fun Kc hKc => ?_) AllReadyH.nil
      go_simp
      refine (pof_is n u K (Nat.le_trans (digs_size (k := 61) HUU.out (by rw [HF.out.2]; have h1 := HQL.out; have h2 := HTP.out.2.2.2; omega) (by decide)) (by decide)) (by omega) (digs_all HUU.out) r (by rw [val_of HUU.out, HF.out.2]; exact HRS.out) _).mono ?_
      rintro e W32 ⟨rfl, hb⟩
      replace b4 := b4.keep hb
      refine hKc.out _ _ ⟨below_step hS.1 hb, hS.2.1.keep hb, hS.2.2.keep hb⟩ (fun hS => ?_)
      clear hKc Kc
      refine takeH (i := 6) (d := some 68) (v := ?v18) rfl rfl (by kernel_rfl) (by kernel_rfl) (by kernel_rfl) (fun _ _ _ h => h) (Or.inl ⟨by rfl, ?h18⟩) hS ?_
      case h18 => intro W _; go_simp; try with_reducible rfl
      simp only [Act.put, List.setIfInBounds_toArray, List.set_cons_zero, List.set_cons_succ]
      refine takeH (i := 7) (d := some 69) (v := ?v19) rfl rfl (by kernel_rfl) (by kernel_rfl) (by kernel_rfl) (fun _ _ _ h => h) (Or.inl ⟨by rfl, ?h19⟩) hS ?_
      case h19 => intro W _; go_simp; try with_reducible rfl
      simp only [Act.put, List.setIfInBounds_toArray, List.set_cons_zero, List.set_cons_succ]
      refine wpAnyH_ready (rs := [8]) (by kernel_rfl) (by simp) ?_
      refine AllReadyH.cons rfl (fun Kc hKc => ?_) AllReadyH.nil
      refine st_of rfl (wp_storeA b4 _ _ rfl rfl rfl (by kernel_rfl) rfl rfl rfl (fun W33 b8 hg => ?_))
      refine hKc.out _ _ ⟨below_far hS.1 hS.1.size (by omega) hg, hS.2.1.far hg (by omega), hS.2.2.far hg (by omega)⟩ (fun hS => ?_)
      clear hKc Kc
      refine takeH (i := 9) (d := some 5) (v := ?v20) rfl rfl (by kernel_rfl) (by kernel_rfl) (by kernel_rfl) (fun _ _ _ h => h) (Or.inl ⟨by rfl, ?h20⟩) hS ?_
      case h20 => intro W _; go_simp; try with_reducible rfl
      simp only [Act.put, List.setIfInBounds_toArray, List.set_cons_zero, List.set_cons_succ]
      refine wpAnyH_done (by kernel_rfl) ?_ _
      go_wp2
      exact bodyPost_ret (res_cell_tmp rfl b8 (by kernel_rfl) rfl rfl) rfl ⟨rfl, hS.1⟩
  refine AllReadyH.cons rfl (fun Kc hKc => ?_) AllReadyH.nil
  go_simp
  refine (pparse_any ⟨#[49]⟩ (by decide) (by decide) _).mono ?_
  rintro e W21 ⟨⟨E1, rfl, hE, hEv⟩, hb⟩
  have HE := Lib.hid (show Num E1 ∧ Dc.valB E1 = 1 from ⟨hE, by rw [hEv]; rfl⟩)
  clear hE hEv
  replace a7 := a7.keep hb
  refine hKc.out _ _ ⟨below_step hS.1 hb, hS.2.1.keep hb, hS.2.2.keep hb⟩ (fun hS => ?_)
  clear hKc Kc
  refine wpAnyH_ready (rs := [0]) (by kernel_rfl) (by simp) ?_
  refine AllReadyH.cons rfl (fun Kc hKc => ?_) AllReadyH.nil
  refine st_of rfl (wp_loadA a7 (agg_num Al) _ rfl rfl ?_)
  refine hKc.out _ _ ⟨below_step hS.1 (Below.refl _ _), hS.2.1.keep (Below.refl _ _), hS.2.2.keep (Below.refl _ _)⟩ (fun hS => ?_)
  clear hKc Kc
  simp only [Act.put, List.setIfInBounds_toArray]
  refine wpAnyH_ready (rs := [2]) (by kernel_rfl) (by simp) ?_
  refine AllReadyH.cons rfl (fun Kc hKc => ?_) AllReadyH.nil
  go_simp
  refine (pplus_any A E1 HAA.out.1 HE.out.1 _).mono ?_
  rintro e W22 ⟨⟨F, rfl, hF, hFv⟩, hb⟩
  have HF := Lib.hid (show Num F ∧ Dc.valB F = Q + 1 by have h1 := HQL.out; have h2 := HTP.out.2.2.1; exact ⟨hF, by rw [hFv, HAA.out.2, HE.out.2, Nat.mod_eq_of_lt (by omega)]⟩)
  have Fl := hF.len
  clear hF hFv
  replace a7 := a7.keep hb
  refine hKc.out _ _ ⟨below_step hS.1 hb, hS.2.1.keep hb, hS.2.2.keep hb⟩ (fun hS => ?_)
  clear hKc Kc
  refine wpAnyH_ready (rs := [3]) (by kernel_rfl) (by simp) ?_
  refine AllReadyH.cons rfl (fun Kc hKc => ?_) AllReadyH.nil
  refine st_of rfl (wp_storeA a7 _ _ rfl rfl rfl (agg_num Fl) (by rw [numV_size, numV_size, Fl, Al]) (numV_oneL F) rfl (fun W23 e7 hg => ?_))
  refine hKc.out _ _ ⟨below_far hS.1 hS.1.size (by omega) hg, hS.2.1.far hg (by omega), hS.2.2.far hg (by omega)⟩ (fun hS => ?_)
  clear hKc Kc
  refine wpAnyH_done (by kernel_rfl) ?_ _
  clear b2 b4 hB
  obtain ⟨hB, b2, b4⟩ := hS
  have r7 : Row24 _ _ F := ⟨e7, Fl⟩
  go_wp2_with fail
  refine wp_region_held_drew (S := fun W : World => Below w.heap.size w W ∧ Blk W w.heap.size 23 #[.bool n, .string s, .int .i64 (T : Int)] ∧ Row24 W W8.heap.size F) (by kernel_rfl) ⟨below_step hB (below_drew _), b2.drew, r7.drewR⟩ (fun hS => ?_)
  replace b4 := b4.drew
  refine takeH (i := 0) (d := some 62) (v := ?v16) rfl rfl (by kernel_rfl) (by kernel_rfl) (by kernel_rfl) (fun _ _ _ h => h) (Or.inl ⟨by rfl, ?h16⟩) hS ?_
  case h16 => intro W _; go_simp; try with_reducible rfl
  simp only [Act.put, List.setIfInBounds_toArray, List.set_cons_zero, List.set_cons_succ]
  refine takeH (i := 1) (d := some 63) (v := .bool n) rfl rfl (by kernel_rfl) (by kernel_rfl) (by kernel_rfl) (fun _ _ _ h => h) (yields_C rfl (by rfl) (by kernel_rfl) _ rfl (j := 0) rfl rfl (fun W hW => hW.2.1)) hS ?_
  simp only [Act.put, List.setIfInBounds_toArray, List.set_cons_zero, List.set_cons_succ]
  refine takeH (i := 2) (d := some 64) (v := _) rfl rfl (by kernel_rfl) (by kernel_rfl) (by kernel_rfl) (fun _ _ _ h => h) (yields_A rfl (by rfl) (agg_num Fl) _ rfl rfl (fun W hW => hW.2.2.blk)) hS ?_
  simp only [Act.put, List.setIfInBounds_toArray, List.set_cons_zero, List.set_cons_succ]
  refine takeH (i := 4) (d := some 66) (v := ?v17) rfl rfl (by kernel_rfl) (by kernel_rfl) (by kernel_rfl) (fun _ _ _ h => h) (Or.inl ⟨by rfl, ?h17⟩) hS ?_
  case h17 => intro W _; go_simp; try with_reducible rfl
  simp only [Act.put, List.setIfInBounds_toArray, List.set_cons_zero, List.set_cons_succ]
  refine wpAnyH_ready (rs := [3]) (by kernel_rfl) (by simp) ?_
  refine AllReadyH.cons rfl (fun Kc hKc => ?_) AllReadyH.nil
  go_simp
  refine (pdigits_any F HF.out.1 _ (HP.out.keep hS.1)).mono ?_
  rintro e W31 ⟨⟨u, rfl, hu⟩, hb⟩
  have HUU := Lib.hid hu
  clear hu
  replace b4 := b4.keep hb
  refine hKc.out _ _ ⟨below_step hS.1 hb, hS.2.1.keep hb, hS.2.2.keep hb⟩ (fun hS => ?_)
  clear hKc Kc
  refine wpAnyH_ready (rs := [5]) (by kernel_rfl) (by simp) ?_
  refine AllReadyH.cons rfl (fun Kc hKc => ?_) AllReadyH.nil
  go_simp
  refine (pof_is n u K (Nat.le_trans (digs_size (k := 61) HUU.out (by rw [HF.out.2]; have h1 := HQL.out; have h2 := HTP.out.2.2.2; omega) (by decide)) (by decide)) (by omega) (digs_all HUU.out) r (by rw [val_of HUU.out, HF.out.2]; exact HRS.out) _).mono ?_
  rintro e W32 ⟨rfl, hb⟩
  replace b4 := b4.keep hb
  refine hKc.out _ _ ⟨below_step hS.1 hb, hS.2.1.keep hb, hS.2.2.keep hb⟩ (fun hS => ?_)
  clear hKc Kc
  refine takeH (i := 6) (d := some 68) (v := ?v18) rfl rfl (by kernel_rfl) (by kernel_rfl) (by kernel_rfl) (fun _ _ _ h => h) (Or.inl ⟨by rfl, ?h18⟩) hS ?_
  case h18 => intro W _; go_simp; try with_reducible rfl
  simp only [Act.put, List.setIfInBounds_toArray, List.set_cons_zero, List.set_cons_succ]
  refine takeH (i := 7) (d := some 69) (v := ?v19) rfl rfl (by kernel_rfl) (by kernel_rfl) (by kernel_rfl) (fun _ _ _ h => h) (Or.inl ⟨by rfl, ?h19⟩) hS ?_
  case h19 => intro W _; go_simp; try with_reducible rfl
  simp only [Act.put, List.setIfInBounds_toArray, List.set_cons_zero, List.set_cons_succ]
  refine wpAnyH_ready (rs := [8]) (by kernel_rfl) (by simp) ?_
  refine AllReadyH.cons rfl (fun Kc hKc => ?_) AllReadyH.nil
  refine st_of rfl (wp_storeA b4 _ _ rfl rfl rfl (by kernel_rfl) rfl rfl rfl (fun W33 b8 hg => ?_))
  refine hKc.out _ _ ⟨below_far hS.1 hS.1.size (by omega) hg, hS.2.1.far hg (by omega), hS.2.2.far hg (by omega)⟩ (fun hS => ?_)
  clear hKc Kc
  refine takeH (i := 9) (d := some 5) (v := ?v20) rfl rfl (by kernel_rfl) (by kernel_rfl) (by kernel_rfl) (fun _ _ _ h => h) (Or.inl ⟨by rfl, ?h20⟩) hS ?_
  case h20 => intro W _; go_simp; try with_reducible rfl
  simp only [Act.put, List.setIfInBounds_toArray, List.set_cons_zero, List.set_cons_succ]
  refine wpAnyH_done (by kernel_rfl) ?_ _
  go_wp2
  exact bodyPost_ret (res_cell_tmp rfl b8 (by kernel_rfl) rfl rfl) rfl ⟨rfl, hS.1⟩
set_option maxRecDepth 100000 in
set_option maxHeartbeats 4000000 in
theorem pRound_B (n : Bool) (s : ByteArray) (T K c : Nat) (hc : T - K = c) (hlt : K < T) (hs : s.size ≤ 60) (hT : T ≤ 60) (hd : Digs s) (hk : okB n s (T : Int) = true) (hA : 2 * (Dc.val (bts s) % 10 ^ c) = 10 ^ c) (hO : Dc.val (bts s) / 10 ^ c % 2 = 1) (r : Res) (hr : resOf (Dc.can n (Dc.val (bts s) / 10 ^ c + 1) K) = r) (w : World) (hP : Pow w) : Calls Tryz.prog 19 #[.agg #[.bool n, .string s, .int .i64 (T : Int)], .int .i64 (K : Int)] w fun e w' => e = .returned (.tuple #[.agg #[.bool r.n, .string r.s, .int .i64 r.S], .int .i64 r.k]) ∧ Below w.heap.size w w' := by
  have C := Lib.hid (pchecked1_yes n s (T : Int) (by omega) hk)
  have d1 : decide ((K : Int) < 0) = false := decide_eq_false (by omega)
  have d2 : decide (60 < (K : Int)) = false := decide_eq_false (by omega)
  have d3 : decide (T ≤ K) = false := decide_eq_false (by omega)
  have hci : (T : Int) - (K : Int) = (c : Int) := by omega
  have hcw : IntKind.i64.wrap ((T : Int) - (K : Int)) = (c : Int) := by rw [IntKind.wrap_i64]; omega
  have hcl : c ≤ 60 := by omega
  have hKl : K ≤ 60 := by omega
  have CZ := Lib.hid (repeat_zeros c (by omega))
  have HDI := Lib.hid hd.all
  have HP : Hid _ := Lib.hid hP
  have hvl := Dc.val_lt hd.all
  rw [bts_length] at hvl
  obtain ⟨V, hV⟩ : ∃ V, Dc.val (bts s) = V := ⟨_, rfl⟩
  rw [hV] at hA hr hvl hO
  obtain ⟨Q, hQ⟩ : ∃ Q, V / 10 ^ c = Q := ⟨_, rfl⟩
  obtain ⟨R, hR⟩ : ∃ R, V % 10 ^ c = R := ⟨_, rfl⟩
  rw [hR] at hA
  rw [hQ] at hr hO
  have HA : Hid (cmpI (2 * R) (10 ^ c) = 0) := Lib.hid (by unfold cmpI; rw [if_neg (by omega), if_neg (by omega)])
  have HO := Lib.hid hO
  have HRS := Lib.hid hr
  have HV := Lib.hid hV
  have HQ := Lib.hid hQ
  have HR := Lib.hid hR
  have H60 : Hid ((10 : Nat) ^ c ≤ 10 ^ 60) := Lib.hid (Nat.pow_le_pow_right (by decide) hcl)
  have HQL : Hid (Q < 10 ^ 60) := Lib.hid (by rw [← hQ]; exact Nat.lt_of_le_of_lt (Nat.div_le_self _ _) (Nat.lt_of_lt_of_le hvl (Nat.pow_le_pow_right (by decide) hs)))
  have HRL : Hid (R < 10 ^ 60) := Lib.hid (by rw [← hR]; exact Nat.lt_of_le_of_lt (Nat.mod_le _ _) (Nat.lt_of_lt_of_le hvl (Nat.pow_le_pow_right (by decide) hs)))
  have HTP : Hid ((10 : Nat) ^ 60 * 10 ≤ top ∧ (10 : Nat) ^ 60 + 10 ^ 60 < top ∧ (10 : Nat) ^ 60 + 1 < top ∧ (10 : Nat) ^ 60 + 1 ≤ 10 ^ 61) := Lib.hid (by rw [top_pow]; refine ⟨by decide, by decide, by decide, by decide⟩)
  clear hc hd hk hA hr hvl hV hQ hR hlt hP hO
  have tok6 : True := trivial
  have tok7 : True := trivial
  have tok8 : True := trivial
  go_enter Tryz.func19, Tryz.ntmps19
  go_upto_region 7 with (first
    | (refine wl_boxA rfl (.tmp 0) rfl rfl (fun W2 b2 hb2 => ?_))
    | (refine wl_allocA rfl zero_dec rfl (fun W4 b4 hb4 => ?_); have l2 := b2.lt; have l22 := hb2.size; replace b2 := b2.keep hb4; have hB := below_step hb2 hb4; clear hb2 hb4)
    | (refine wl_loadA (ty := 23) b2 rfl (by kernel_rfl) _ rfl rfl ?_)
    | (go_at_call 43; refine (C.out _ _ (by simp [World.cell?_alloc_new]) (by simp [World.cell?_alloc_new]) (by simp [World.cell?_alloc_new])).mono ?_; rintro e W5 ⟨rfl, hb⟩; replace hB := below_step (below_step hB (below_new _ _)) hb; replace b2 := (Blk.old b2 _).keep hb; replace b4 := (Blk.old b4 _).keep hb; clear hb)
    | (refine wl_loadC b2 rfl (by kernel_rfl) _ rfl (j := 0) rfl rfl ?_)
    | (refine wl_loadC b2 rfl (by kernel_rfl) _ rfl (j := 1) rfl rfl ?_)
    | (refine wl_loadC b2 rfl (by kernel_rfl) _ rfl (j := 2) rfl rfl ?_)
    | (go_at_call 44; refine (CZ.out _).mono ?_; rintro e W6 ⟨⟨z, rfl, hz⟩, hb⟩; replace hB := below_step hB hb; replace b2 := b2.keep hb; replace b4 := b4.keep hb; have zl : z.size ≤ 60 := (by rw [← bts_length, hz, List.length_replicate]; omega); obtain ⟨un, hun⟩ : ∃ un, (⟨#[49]⟩ : ByteArray) ++ z = un := ⟨_, rfl⟩; have HUN := Lib.hid (show bts un = Dc.digs (10 ^ c) by rw [ten_digs, ← hun, str_add, hz]; rfl); have unl : un.size ≤ 61 := (by rw [← bts_length, HUN.out, ten_digs, List.length_cons, List.length_replicate]; omega); clear hz hb)
    | (go_at_call 54; refine (pparse_any un (by omega) (digs_all HUN.out) _).mono ?_; rintro e W7 ⟨⟨U, rfl, hU, hUv⟩, hb⟩; replace hB := below_step hB hb; replace b2 := b2.keep hb; replace b4 := b4.keep hb; have HU := Lib.hid (show Num U ∧ Dc.valB U = 10 ^ c from ⟨hU, by rw [hUv, val_of HUN.out]⟩); have Ul := hU.len; clear hU hUv hb)
    | (have _t := tok6; refine wl_allocA rfl zero_num rfl (fun W16 a6 hb => ?_); have q6 := And.intro b2.lt (And.intro b4.lt hB.size); replace hB := below_step hB hb; replace b2 := b2.keep hb; replace b4 := b4.keep hb; have z6 := numV_size (List.replicate 24 0); clear hb tok6 _t)
    | (refine wl_storeA a6 rfl _ _ rfl rfl rfl (agg_num Ul) (by rw [numV_size, numV_size, Ul]; rfl) (numV_oneL U) rfl (fun W26 e6 hg => ?_); replace b2 := b2.far hg (by omega); replace b4 := b4.far hg (by omega); replace hB := below_far hB hB.size (by omega) hg; have r6 : Row24 W26 _ U := ⟨e6, Ul⟩; clear hg a6 e6)
    | (refine wl_loadA r6.blk rfl (agg_num Ul) _ rfl rfl ?_)
    | (go_at_call 49; refine (pover_any s U (by omega) HDI.out HU.out.1 (by rw [HU.out.2]; exact Dc.pow10_pos c) (by rw [HU.out.2]; exact Nat.le_trans (Nat.mul_le_mul_right _ H60.out) HTP.out.1) _).mono ?_; rintro e W8 ⟨⟨A, B, rfl, hA, hB3, hAv, hBv⟩, hb⟩; replace hB := below_step hB hb; replace b2 := b2.keep hb; replace b4 := b4.keep hb; replace r6 := r6.keep hb; have HAA := Lib.hid (show Num A ∧ Dc.valB A = Q from ⟨hA, by rw [hAv, HU.out.2, HV.out, HQ.out]⟩); have HBB := Lib.hid (show Num B ∧ Dc.valB B = R from ⟨hB3, by rw [hBv, HU.out.2, HV.out, HR.out]⟩); have Al := hA.len; have Bl := hB3.len; clear hA hB3 hAv hBv hb)
    | (have _t := tok7; refine wl_allocA rfl zero_num rfl (fun W17 a7 hb => ?_); have q7 := And.intro b2.lt (And.intro b4.lt r6.lt); replace hB := below_step hB hb; replace b2 := b2.keep hb; replace b4 := b4.keep hb; replace r6 := r6.keep hb; have z7 := numV_size (List.replicate 24 0); clear hb tok7 _t)
    | (have _t := tok8; refine wl_allocA rfl zero_num rfl (fun W18 a8 hb => ?_); have q8 := And.intro b2.lt (And.intro b4.lt (And.intro r6.lt a7.lt)); replace hB := below_step hB hb; replace b2 := b2.keep hb; replace b4 := b4.keep hb; replace r6 := r6.keep hb; replace a7 := a7.keep hb; have z8 := numV_size (List.replicate 24 0); clear hb tok8 _t)
    | (refine wl_storeA a7 rfl _ _ rfl rfl rfl (agg_num Al) (by rw [numV_size, numV_size, Al]; rfl) (numV_oneL A) rfl (fun W27 e7 hg => ?_); replace b2 := b2.far hg (by omega); replace b4 := b4.far hg (by omega); replace r6 := r6.far hg (by omega); replace a8 := a8.far hg (by omega); replace hB := below_far hB hB.size (by omega) hg; have r7 : Row24 W27 _ A := ⟨e7, Al⟩; clear hg a7 e7)
    | (refine wl_storeA a8 rfl _ _ rfl rfl rfl (agg_num Bl) (by rw [numV_size, numV_size, Bl]; rfl) (numV_oneL B) rfl (fun W28 e8 hg => ?_); replace b2 := b2.far hg (by omega); replace b4 := b4.far hg (by omega); replace r6 := r6.far hg (by omega); replace r7 := r7.far hg (by omega); replace hB := below_far hB hB.size (by omega) hg; have r8 : Row24 W28 _ B := ⟨e8, Bl⟩; clear hg a8 e8))
  refine wp_region_held_drew (S := fun W : World => Below w.heap.size w W ∧ Blk W w.heap.size 23 #[.bool n, .string s, .int .i64 (T : Int)] ∧ Blk W W2.heap.size 23 #[.bool false, .string ⟨#[]⟩, .int .i64 0] ∧ Row24 W W7.heap.size U ∧ Row24 W W8.heap.size A ∧ Row24 W W17.heap.size B) (by kernel_rfl) ⟨below_step hB (below_drew _), b2.drew, b4.drew, r6.drewR, r7.drewR, r8.drewR⟩ (fun hS => ?_)
  refine takeH (i := 0) (d := some 42) (v := _) rfl rfl (by kernel_rfl) (by kernel_rfl) (by kernel_rfl) (fun _ _ _ h => h) (yields_A rfl (by rfl) (agg_num Bl) _ rfl rfl (fun W hW => hW.2.2.2.2.2.blk)) hS ?_
  simp only [Act.put, List.setIfInBounds_toArray, List.set_cons_zero, List.set_cons_succ]
  refine takeH (i := 1) (d := some 43) (v := _) rfl rfl (by kernel_rfl) (by kernel_rfl) (by kernel_rfl) (fun _ _ _ h => h) (yields_A rfl (by rfl) (agg_num Bl) _ rfl rfl (fun W hW => hW.2.2.2.2.2.blk)) hS ?_
  simp only [Act.put, List.setIfInBounds_toArray, List.set_cons_zero, List.set_cons_succ]
  refine takeH (i := 3) (d := some 45) (v := _) rfl rfl (by kernel_rfl) (by kernel_rfl) (by kernel_rfl) (fun _ _ _ h => h) (yields_A rfl (by rfl) (agg_num Ul) _ rfl rfl (fun W hW => hW.2.2.2.1.blk)) hS ?_
  simp only [Act.put, List.setIfInBounds_toArray, List.set_cons_zero, List.set_cons_succ]
  refine wpAnyH_ready (rs := [2]) (by kernel_rfl) (by simp) ?_
  refine AllReadyH.cons rfl (fun Kc hKc => ?_) AllReadyH.nil
  go_simp
  refine (pplus_any B B HBB.out.1 HBB.out.1 _).mono ?_
  rintro e W9 ⟨⟨O, rfl, hO, hOv⟩, hb⟩
  have HOO := Lib.hid (show Num O ∧ Dc.valB O = 2 * R by have h1 := HRL.out; have h2 := HTP.out.2.1; exact ⟨hO, by rw [hOv, HBB.out.2, Nat.mod_eq_of_lt (by omega), Nat.two_mul]⟩)
  clear hO hOv
  refine hKc.out _ _ ⟨below_step hS.1 hb, hS.2.1.keep hb, hS.2.2.1.keep hb, hS.2.2.2.1.keep hb, hS.2.2.2.2.1.keep hb, hS.2.2.2.2.2.keep hb⟩ (fun hS => ?_)
  clear hKc Kc
  refine wpAnyH_ready (rs := [4]) (by kernel_rfl) (by simp) ?_
  refine AllReadyH.cons rfl (fun Kc hKc => ?_) AllReadyH.nil
  go_simp
  refine (pcmp_k O U HOO.out.1 HU.out.1 _ _ HOO.out.2 HU.out.2 0 HA.out _).mono ?_
  rintro e W10 ⟨rfl, hb⟩
  refine hKc.out _ _ ⟨below_step hS.1 hb, hS.2.1.keep hb, hS.2.2.1.keep hb, hS.2.2.2.1.keep hb, hS.2.2.2.2.1.keep hb, hS.2.2.2.2.2.keep hb⟩ (fun hS => ?_)
  clear hKc Kc
  refine takeH (i := 5) (d := some 9) (v := ?v21) rfl rfl (by kernel_rfl) (by kernel_rfl) (by kernel_rfl) (fun _ _ _ h => h) (Or.inl ⟨by rfl, ?h21⟩) hS ?_
  case h21 => intro W _; go_simp; try with_reducible rfl
  simp only [Act.put, List.setIfInBounds_toArray, List.set_cons_zero, List.set_cons_succ]
  refine wpAnyH_done (by kernel_rfl) ?_ _
  clear b2 b4 r6 r7 r8 hB
  obtain ⟨hB, b2, b4, r6, r7, r8⟩ := hS
  obtain ⟨q0, q0l, q0p, q0e⟩ := num_first HAA.out.1
  have c70 := r7.cell (j := 0) (by decide)
  rw [q0e] at c70
  have hq2 : q0 % 2 = 1 := by rw [q0p, HAA.out.2]; have := HO.out; omega
  go_wp2_with fail
  have a7 := r7.blk
  clear r7
  refine wp_region_held_drew (S := fun W : World => Below w.heap.size w W ∧ Blk W w.heap.size 23 #[.bool n, .string s, .int .i64 (T : Int)] ∧ Blk W W2.heap.size 23 #[.bool false, .string ⟨#[]⟩, .int .i64 0]) (by kernel_rfl) ⟨below_step hB (below_drew _), b2.drew, b4.drew⟩ (fun hS => ?_)
  replace a7 := a7.drew
  refine wpAnyH_ready (rs := [0, 1]) (by kernel_rfl) (by simp) ?_
  refine AllReadyH.cons rfl (fun Kc hKc => ?_) ?_
  ·   skip
      refine st_of rfl (wp_loadA a7 (agg_num Al) _ rfl rfl ?_)
      refine hKc.out _ _ ⟨below_step hS.1 (Below.refl _ _), hS.2.1.keep (Below.refl _ _), hS.2.2.keep (Below.refl _ _)⟩ (fun hS => ?_)
      clear hKc Kc
      simp only [Act.put, List.setIfInBounds_toArray]
      refine wpAnyH_ready (rs := [1]) (by kernel_rfl) (by simp) ?_
      refine AllReadyH.cons rfl (fun Kc hKc => ?_) AllReadyH.nil
      go_simp
      refine (pparse_any ⟨#[49]⟩ (by decide) (by decide) _).mono ?_
      rintro e W21 ⟨⟨E1, rfl, hE, hEv⟩, hb⟩
      have HE := Lib.hid (show Num E1 ∧ Dc.valB E1 = 1 from ⟨hE, by rw [hEv]; rfl⟩)
      clear hE hEv
      replace a7 := a7.keep hb
      refine hKc.out _ _ ⟨below_step hS.1 hb, hS.2.1.keep hb, hS.2.2.keep hb⟩ (fun hS => ?_)
      clear hKc Kc
      refine wpAnyH_ready (rs := [2]) (by kernel_rfl) (by simp) ?_
      refine AllReadyH.cons rfl (fun Kc hKc => ?_) AllReadyH.nil
      go_simp
      refine (pplus_any A E1 HAA.out.1 HE.out.1 _).mono ?_
      rintro e W22 ⟨⟨F, rfl, hF, hFv⟩, hb⟩
      have HF := Lib.hid (show Num F ∧ Dc.valB F = Q + 1 by have h1 := HQL.out; have h2 := HTP.out.2.2.1; exact ⟨hF, by rw [hFv, HAA.out.2, HE.out.2, Nat.mod_eq_of_lt (by omega)]⟩)
      have Fl := hF.len
      clear hF hFv
      replace a7 := a7.keep hb
      refine hKc.out _ _ ⟨below_step hS.1 hb, hS.2.1.keep hb, hS.2.2.keep hb⟩ (fun hS => ?_)
      clear hKc Kc
      refine wpAnyH_ready (rs := [3]) (by kernel_rfl) (by simp) ?_
      refine AllReadyH.cons rfl (fun Kc hKc => ?_) AllReadyH.nil
      refine st_of rfl (wp_storeA a7 _ _ rfl rfl rfl (agg_num Fl) (by rw [numV_size, numV_size, Fl, Al]) (numV_oneL F) rfl (fun W23 e7 hg => ?_))
      refine hKc.out _ _ ⟨below_far hS.1 hS.1.size (by omega) hg, hS.2.1.far hg (by omega), hS.2.2.far hg (by omega)⟩ (fun hS => ?_)
      clear hKc Kc
      refine wpAnyH_done (by kernel_rfl) ?_ _
      clear b2 b4 hB
      obtain ⟨hB, b2, b4⟩ := hS
      have r7 : Row24 _ _ F := ⟨e7, Fl⟩
      go_wp2_with fail
      refine wp_region_held_drew (S := fun W : World => Below w.heap.size w W ∧ Blk W w.heap.size 23 #[.bool n, .string s, .int .i64 (T : Int)] ∧ Row24 W W8.heap.size F) (by kernel_rfl) ⟨below_step hB (below_drew _), b2.drew, r7.drewR⟩ (fun hS => ?_)
      replace b4 := b4.drew
      refine takeH (i := 0) (d := some 62) (v := ?v22) rfl rfl (by kernel_rfl) (by kernel_rfl) (by kernel_rfl) (fun _ _ _ h => h) (Or.inl ⟨by rfl, ?h22⟩) hS ?_
      case h22 => intro W _; go_simp; try with_reducible rfl
      simp only [Act.put, List.setIfInBounds_toArray, List.set_cons_zero, List.set_cons_succ]
      refine takeH (i := 1) (d := some 63) (v := .bool n) rfl rfl (by kernel_rfl) (by kernel_rfl) (by kernel_rfl) (fun _ _ _ h => h) (yields_C rfl (by rfl) (by kernel_rfl) _ rfl (j := 0) rfl rfl (fun W hW => hW.2.1)) hS ?_
      simp only [Act.put, List.setIfInBounds_toArray, List.set_cons_zero, List.set_cons_succ]
      refine takeH (i := 2) (d := some 64) (v := _) rfl rfl (by kernel_rfl) (by kernel_rfl) (by kernel_rfl) (fun _ _ _ h => h) (yields_A rfl (by rfl) (agg_num Fl) _ rfl rfl (fun W hW => hW.2.2.blk)) hS ?_
      simp only [Act.put, List.setIfInBounds_toArray, List.set_cons_zero, List.set_cons_succ]
      refine takeH (i := 4) (d := some 66) (v := ?v23) rfl rfl (by kernel_rfl) (by kernel_rfl) (by kernel_rfl) (fun _ _ _ h => h) (Or.inl ⟨by rfl, ?h23⟩) hS ?_
      case h23 => intro W _; go_simp; try with_reducible rfl
      simp only [Act.put, List.setIfInBounds_toArray, List.set_cons_zero, List.set_cons_succ]
      refine wpAnyH_ready (rs := [3]) (by kernel_rfl) (by simp) ?_
      refine AllReadyH.cons rfl (fun Kc hKc => ?_) AllReadyH.nil
      go_simp
      refine (pdigits_any F HF.out.1 _ (HP.out.keep hS.1)).mono ?_
      rintro e W31 ⟨⟨u, rfl, hu⟩, hb⟩
      have HUU := Lib.hid hu
      clear hu
      replace b4 := b4.keep hb
      refine hKc.out _ _ ⟨below_step hS.1 hb, hS.2.1.keep hb, hS.2.2.keep hb⟩ (fun hS => ?_)
      clear hKc Kc
      refine wpAnyH_ready (rs := [5]) (by kernel_rfl) (by simp) ?_
      refine AllReadyH.cons rfl (fun Kc hKc => ?_) AllReadyH.nil
      go_simp
      refine (pof_is n u K (Nat.le_trans (digs_size (k := 61) HUU.out (by rw [HF.out.2]; have h1 := HQL.out; have h2 := HTP.out.2.2.2; omega) (by decide)) (by decide)) (by omega) (digs_all HUU.out) r (by rw [val_of HUU.out, HF.out.2]; exact HRS.out) _).mono ?_
      rintro e W32 ⟨rfl, hb⟩
      replace b4 := b4.keep hb
      refine hKc.out _ _ ⟨below_step hS.1 hb, hS.2.1.keep hb, hS.2.2.keep hb⟩ (fun hS => ?_)
      clear hKc Kc
      refine takeH (i := 6) (d := some 68) (v := ?v24) rfl rfl (by kernel_rfl) (by kernel_rfl) (by kernel_rfl) (fun _ _ _ h => h) (Or.inl ⟨by rfl, ?h24⟩) hS ?_
      case h24 => intro W _; go_simp; try with_reducible rfl
      simp only [Act.put, List.setIfInBounds_toArray, List.set_cons_zero, List.set_cons_succ]
      refine takeH (i := 7) (d := some 69) (v := ?v25) rfl rfl (by kernel_rfl) (by kernel_rfl) (by kernel_rfl) (fun _ _ _ h => h) (Or.inl ⟨by rfl, ?h25⟩) hS ?_
      case h25 => intro W _; go_simp; try with_reducible rfl
      simp only [Act.put, List.setIfInBounds_toArray, List.set_cons_zero, List.set_cons_succ]
      refine wpAnyH_ready (rs := [8]) (by kernel_rfl) (by simp) ?_
      refine AllReadyH.cons rfl (fun Kc hKc => ?_) AllReadyH.nil
      refine st_of rfl (wp_storeA b4 _ _ rfl rfl rfl (by kernel_rfl) rfl rfl rfl (fun W33 b8 hg => ?_))
      refine hKc.out _ _ ⟨below_far hS.1 hS.1.size (by omega) hg, hS.2.1.far hg (by omega), hS.2.2.far hg (by omega)⟩ (fun hS => ?_)
      clear hKc Kc
      refine takeH (i := 9) (d := some 5) (v := ?v26) rfl rfl (by kernel_rfl) (by kernel_rfl) (by kernel_rfl) (fun _ _ _ h => h) (Or.inl ⟨by rfl, ?h26⟩) hS ?_
      case h26 => intro W _; go_simp; try with_reducible rfl
      simp only [Act.put, List.setIfInBounds_toArray, List.set_cons_zero, List.set_cons_succ]
      refine wpAnyH_done (by kernel_rfl) ?_ _
      go_wp2
      exact bodyPost_ret (res_cell_tmp rfl b8 (by kernel_rfl) rfl rfl) rfl ⟨rfl, hS.1⟩
  refine AllReadyH.cons rfl (fun Kc hKc => ?_) AllReadyH.nil
  go_simp
  refine (pparse_any ⟨#[49]⟩ (by decide) (by decide) _).mono ?_
  rintro e W21 ⟨⟨E1, rfl, hE, hEv⟩, hb⟩
  have HE := Lib.hid (show Num E1 ∧ Dc.valB E1 = 1 from ⟨hE, by rw [hEv]; rfl⟩)
  clear hE hEv
  replace a7 := a7.keep hb
  refine hKc.out _ _ ⟨below_step hS.1 hb, hS.2.1.keep hb, hS.2.2.keep hb⟩ (fun hS => ?_)
  clear hKc Kc
  refine wpAnyH_ready (rs := [0]) (by kernel_rfl) (by simp) ?_
  refine AllReadyH.cons rfl (fun Kc hKc => ?_) AllReadyH.nil
  refine st_of rfl (wp_loadA a7 (agg_num Al) _ rfl rfl ?_)
  refine hKc.out _ _ ⟨below_step hS.1 (Below.refl _ _), hS.2.1.keep (Below.refl _ _), hS.2.2.keep (Below.refl _ _)⟩ (fun hS => ?_)
  clear hKc Kc
  simp only [Act.put, List.setIfInBounds_toArray]
  refine wpAnyH_ready (rs := [2]) (by kernel_rfl) (by simp) ?_
  refine AllReadyH.cons rfl (fun Kc hKc => ?_) AllReadyH.nil
  go_simp
  refine (pplus_any A E1 HAA.out.1 HE.out.1 _).mono ?_
  rintro e W22 ⟨⟨F, rfl, hF, hFv⟩, hb⟩
  have HF := Lib.hid (show Num F ∧ Dc.valB F = Q + 1 by have h1 := HQL.out; have h2 := HTP.out.2.2.1; exact ⟨hF, by rw [hFv, HAA.out.2, HE.out.2, Nat.mod_eq_of_lt (by omega)]⟩)
  have Fl := hF.len
  clear hF hFv
  replace a7 := a7.keep hb
  refine hKc.out _ _ ⟨below_step hS.1 hb, hS.2.1.keep hb, hS.2.2.keep hb⟩ (fun hS => ?_)
  clear hKc Kc
  refine wpAnyH_ready (rs := [3]) (by kernel_rfl) (by simp) ?_
  refine AllReadyH.cons rfl (fun Kc hKc => ?_) AllReadyH.nil
  refine st_of rfl (wp_storeA a7 _ _ rfl rfl rfl (agg_num Fl) (by rw [numV_size, numV_size, Fl, Al]) (numV_oneL F) rfl (fun W23 e7 hg => ?_))
  refine hKc.out _ _ ⟨below_far hS.1 hS.1.size (by omega) hg, hS.2.1.far hg (by omega), hS.2.2.far hg (by omega)⟩ (fun hS => ?_)
  clear hKc Kc
  refine wpAnyH_done (by kernel_rfl) ?_ _
  clear b2 b4 hB
  obtain ⟨hB, b2, b4⟩ := hS
  have r7 : Row24 _ _ F := ⟨e7, Fl⟩
  go_wp2_with fail
  refine wp_region_held_drew (S := fun W : World => Below w.heap.size w W ∧ Blk W w.heap.size 23 #[.bool n, .string s, .int .i64 (T : Int)] ∧ Row24 W W8.heap.size F) (by kernel_rfl) ⟨below_step hB (below_drew _), b2.drew, r7.drewR⟩ (fun hS => ?_)
  replace b4 := b4.drew
  refine takeH (i := 0) (d := some 62) (v := ?v22) rfl rfl (by kernel_rfl) (by kernel_rfl) (by kernel_rfl) (fun _ _ _ h => h) (Or.inl ⟨by rfl, ?h22⟩) hS ?_
  case h22 => intro W _; go_simp; try with_reducible rfl
  simp only [Act.put, List.setIfInBounds_toArray, List.set_cons_zero, List.set_cons_succ]
  refine takeH (i := 1) (d := some 63) (v := .bool n) rfl rfl (by kernel_rfl) (by kernel_rfl) (by kernel_rfl) (fun _ _ _ h => h) (yields_C rfl (by rfl) (by kernel_rfl) _ rfl (j := 0) rfl rfl (fun W hW => hW.2.1)) hS ?_
  simp only [Act.put, List.setIfInBounds_toArray, List.set_cons_zero, List.set_cons_succ]
  refine takeH (i := 2) (d := some 64) (v := _) rfl rfl (by kernel_rfl) (by kernel_rfl) (by kernel_rfl) (fun _ _ _ h => h) (yields_A rfl (by rfl) (agg_num Fl) _ rfl rfl (fun W hW => hW.2.2.blk)) hS ?_
  simp only [Act.put, List.setIfInBounds_toArray, List.set_cons_zero, List.set_cons_succ]
  refine takeH (i := 4) (d := some 66) (v := ?v23) rfl rfl (by kernel_rfl) (by kernel_rfl) (by kernel_rfl) (fun _ _ _ h => h) (Or.inl ⟨by rfl, ?h23⟩) hS ?_
  case h23 => intro W _; go_simp; try with_reducible rfl
  simp only [Act.put, List.setIfInBounds_toArray, List.set_cons_zero, List.set_cons_succ]
  refine wpAnyH_ready (rs := [3]) (by kernel_rfl) (by simp) ?_
  refine AllReadyH.cons rfl (fun Kc hKc => ?_) AllReadyH.nil
  go_simp
  refine (pdigits_any F HF.out.1 _ (HP.out.keep hS.1)).mono ?_
  rintro e W31 ⟨⟨u, rfl, hu⟩, hb⟩
  have HUU := Lib.hid hu
  clear hu
  replace b4 := b4.keep hb
  refine hKc.out _ _ ⟨below_step hS.1 hb, hS.2.1.keep hb, hS.2.2.keep hb⟩ (fun hS => ?_)
  clear hKc Kc
  refine wpAnyH_ready (rs := [5]) (by kernel_rfl) (by simp) ?_
  refine AllReadyH.cons rfl (fun Kc hKc => ?_) AllReadyH.nil
  go_simp
  refine (pof_is n u K (Nat.le_trans (digs_size (k := 61) HUU.out (by rw [HF.out.2]; have h1 := HQL.out; have h2 := HTP.out.2.2.2; omega) (by decide)) (by decide)) (by omega) (digs_all HUU.out) r (by rw [val_of HUU.out, HF.out.2]; exact HRS.out) _).mono ?_
  rintro e W32 ⟨rfl, hb⟩
  replace b4 := b4.keep hb
  refine hKc.out _ _ ⟨below_step hS.1 hb, hS.2.1.keep hb, hS.2.2.keep hb⟩ (fun hS => ?_)
  clear hKc Kc
  refine takeH (i := 6) (d := some 68) (v := ?v24) rfl rfl (by kernel_rfl) (by kernel_rfl) (by kernel_rfl) (fun _ _ _ h => h) (Or.inl ⟨by rfl, ?h24⟩) hS ?_
  case h24 => intro W _; go_simp; try with_reducible rfl
  simp only [Act.put, List.setIfInBounds_toArray, List.set_cons_zero, List.set_cons_succ]
  refine takeH (i := 7) (d := some 69) (v := ?v25) rfl rfl (by kernel_rfl) (by kernel_rfl) (by kernel_rfl) (fun _ _ _ h => h) (Or.inl ⟨by rfl, ?h25⟩) hS ?_
  case h25 => intro W _; go_simp; try with_reducible rfl
  simp only [Act.put, List.setIfInBounds_toArray, List.set_cons_zero, List.set_cons_succ]
  refine wpAnyH_ready (rs := [8]) (by kernel_rfl) (by simp) ?_
  refine AllReadyH.cons rfl (fun Kc hKc => ?_) AllReadyH.nil
  refine st_of rfl (wp_storeA b4 _ _ rfl rfl rfl (by kernel_rfl) rfl rfl rfl (fun W33 b8 hg => ?_))
  refine hKc.out _ _ ⟨below_far hS.1 hS.1.size (by omega) hg, hS.2.1.far hg (by omega), hS.2.2.far hg (by omega)⟩ (fun hS => ?_)
  clear hKc Kc
  refine takeH (i := 9) (d := some 5) (v := ?v26) rfl rfl (by kernel_rfl) (by kernel_rfl) (by kernel_rfl) (fun _ _ _ h => h) (Or.inl ⟨by rfl, ?h26⟩) hS ?_
  case h26 => intro W _; go_simp; try with_reducible rfl
  simp only [Act.put, List.setIfInBounds_toArray, List.set_cons_zero, List.set_cons_succ]
  refine wpAnyH_done (by kernel_rfl) ?_ _
  go_wp2
  exact bodyPost_ret (res_cell_tmp rfl b8 (by kernel_rfl) rfl rfl) rfl ⟨rfl, hS.1⟩
set_option maxRecDepth 100000 in
set_option maxHeartbeats 4000000 in
theorem pRound_C (n : Bool) (s : ByteArray) (T K c : Nat) (hc : T - K = c) (hlt : K < T) (hs : s.size ≤ 60) (hT : T ≤ 60) (hd : Digs s) (hk : okB n s (T : Int) = true) (hA : 2 * (Dc.val (bts s) % 10 ^ c) = 10 ^ c) (hO : ¬ Dc.val (bts s) / 10 ^ c % 2 = 1) (r : Res) (hr : resOf (Dc.can n (Dc.val (bts s) / 10 ^ c) K) = r) (w : World) (hP : Pow w) : Calls Tryz.prog 19 #[.agg #[.bool n, .string s, .int .i64 (T : Int)], .int .i64 (K : Int)] w fun e w' => e = .returned (.tuple #[.agg #[.bool r.n, .string r.s, .int .i64 r.S], .int .i64 r.k]) ∧ Below w.heap.size w w' := by
  have C := Lib.hid (pchecked1_yes n s (T : Int) (by omega) hk)
  have d1 : decide ((K : Int) < 0) = false := decide_eq_false (by omega)
  have d2 : decide (60 < (K : Int)) = false := decide_eq_false (by omega)
  have d3 : decide (T ≤ K) = false := decide_eq_false (by omega)
  have hci : (T : Int) - (K : Int) = (c : Int) := by omega
  have hcw : IntKind.i64.wrap ((T : Int) - (K : Int)) = (c : Int) := by rw [IntKind.wrap_i64]; omega
  have hcl : c ≤ 60 := by omega
  have hKl : K ≤ 60 := by omega
  have CZ := Lib.hid (repeat_zeros c (by omega))
  have HDI := Lib.hid hd.all
  have HP : Hid _ := Lib.hid hP
  have hvl := Dc.val_lt hd.all
  rw [bts_length] at hvl
  obtain ⟨V, hV⟩ : ∃ V, Dc.val (bts s) = V := ⟨_, rfl⟩
  rw [hV] at hA hr hvl hO
  obtain ⟨Q, hQ⟩ : ∃ Q, V / 10 ^ c = Q := ⟨_, rfl⟩
  obtain ⟨R, hR⟩ : ∃ R, V % 10 ^ c = R := ⟨_, rfl⟩
  rw [hR] at hA
  rw [hQ] at hr hO
  have HA : Hid (cmpI (2 * R) (10 ^ c) = 0) := Lib.hid (by unfold cmpI; rw [if_neg (by omega), if_neg (by omega)])
  have HO := Lib.hid hO
  have HRS := Lib.hid hr
  have HV := Lib.hid hV
  have HQ := Lib.hid hQ
  have HR := Lib.hid hR
  have H60 : Hid ((10 : Nat) ^ c ≤ 10 ^ 60) := Lib.hid (Nat.pow_le_pow_right (by decide) hcl)
  have HQL : Hid (Q < 10 ^ 60) := Lib.hid (by rw [← hQ]; exact Nat.lt_of_le_of_lt (Nat.div_le_self _ _) (Nat.lt_of_lt_of_le hvl (Nat.pow_le_pow_right (by decide) hs)))
  have HRL : Hid (R < 10 ^ 60) := Lib.hid (by rw [← hR]; exact Nat.lt_of_le_of_lt (Nat.mod_le _ _) (Nat.lt_of_lt_of_le hvl (Nat.pow_le_pow_right (by decide) hs)))
  have HTP : Hid ((10 : Nat) ^ 60 * 10 ≤ top ∧ (10 : Nat) ^ 60 + 10 ^ 60 < top ∧ (10 : Nat) ^ 60 + 1 < top ∧ (10 : Nat) ^ 60 + 1 ≤ 10 ^ 61) := Lib.hid (by rw [top_pow]; refine ⟨by decide, by decide, by decide, by decide⟩)
  clear hc hd hk hA hr hvl hV hQ hR hlt hP hO
  have tok6 : True := trivial
  have tok7 : True := trivial
  have tok8 : True := trivial
  go_enter Tryz.func19, Tryz.ntmps19
  go_upto_region 7 with (first
    | (refine wl_boxA rfl (.tmp 0) rfl rfl (fun W2 b2 hb2 => ?_))
    | (refine wl_allocA rfl zero_dec rfl (fun W4 b4 hb4 => ?_); have l2 := b2.lt; have l22 := hb2.size; replace b2 := b2.keep hb4; have hB := below_step hb2 hb4; clear hb2 hb4)
    | (refine wl_loadA (ty := 23) b2 rfl (by kernel_rfl) _ rfl rfl ?_)
    | (go_at_call 43; refine (C.out _ _ (by simp [World.cell?_alloc_new]) (by simp [World.cell?_alloc_new]) (by simp [World.cell?_alloc_new])).mono ?_; rintro e W5 ⟨rfl, hb⟩; replace hB := below_step (below_step hB (below_new _ _)) hb; replace b2 := (Blk.old b2 _).keep hb; replace b4 := (Blk.old b4 _).keep hb; clear hb)
    | (refine wl_loadC b2 rfl (by kernel_rfl) _ rfl (j := 0) rfl rfl ?_)
    | (refine wl_loadC b2 rfl (by kernel_rfl) _ rfl (j := 1) rfl rfl ?_)
    | (refine wl_loadC b2 rfl (by kernel_rfl) _ rfl (j := 2) rfl rfl ?_)
    | (go_at_call 44; refine (CZ.out _).mono ?_; rintro e W6 ⟨⟨z, rfl, hz⟩, hb⟩; replace hB := below_step hB hb; replace b2 := b2.keep hb; replace b4 := b4.keep hb; have zl : z.size ≤ 60 := (by rw [← bts_length, hz, List.length_replicate]; omega); obtain ⟨un, hun⟩ : ∃ un, (⟨#[49]⟩ : ByteArray) ++ z = un := ⟨_, rfl⟩; have HUN := Lib.hid (show bts un = Dc.digs (10 ^ c) by rw [ten_digs, ← hun, str_add, hz]; rfl); have unl : un.size ≤ 61 := (by rw [← bts_length, HUN.out, ten_digs, List.length_cons, List.length_replicate]; omega); clear hz hb)
    | (go_at_call 54; refine (pparse_any un (by omega) (digs_all HUN.out) _).mono ?_; rintro e W7 ⟨⟨U, rfl, hU, hUv⟩, hb⟩; replace hB := below_step hB hb; replace b2 := b2.keep hb; replace b4 := b4.keep hb; have HU := Lib.hid (show Num U ∧ Dc.valB U = 10 ^ c from ⟨hU, by rw [hUv, val_of HUN.out]⟩); have Ul := hU.len; clear hU hUv hb)
    | (have _t := tok6; refine wl_allocA rfl zero_num rfl (fun W16 a6 hb => ?_); have q6 := And.intro b2.lt (And.intro b4.lt hB.size); replace hB := below_step hB hb; replace b2 := b2.keep hb; replace b4 := b4.keep hb; have z6 := numV_size (List.replicate 24 0); clear hb tok6 _t)
    | (refine wl_storeA a6 rfl _ _ rfl rfl rfl (agg_num Ul) (by rw [numV_size, numV_size, Ul]; rfl) (numV_oneL U) rfl (fun W26 e6 hg => ?_); replace b2 := b2.far hg (by omega); replace b4 := b4.far hg (by omega); replace hB := below_far hB hB.size (by omega) hg; have r6 : Row24 W26 _ U := ⟨e6, Ul⟩; clear hg a6 e6)
    | (refine wl_loadA r6.blk rfl (agg_num Ul) _ rfl rfl ?_)
    | (go_at_call 49; refine (pover_any s U (by omega) HDI.out HU.out.1 (by rw [HU.out.2]; exact Dc.pow10_pos c) (by rw [HU.out.2]; exact Nat.le_trans (Nat.mul_le_mul_right _ H60.out) HTP.out.1) _).mono ?_; rintro e W8 ⟨⟨A, B, rfl, hA, hB3, hAv, hBv⟩, hb⟩; replace hB := below_step hB hb; replace b2 := b2.keep hb; replace b4 := b4.keep hb; replace r6 := r6.keep hb; have HAA := Lib.hid (show Num A ∧ Dc.valB A = Q from ⟨hA, by rw [hAv, HU.out.2, HV.out, HQ.out]⟩); have HBB := Lib.hid (show Num B ∧ Dc.valB B = R from ⟨hB3, by rw [hBv, HU.out.2, HV.out, HR.out]⟩); have Al := hA.len; have Bl := hB3.len; clear hA hB3 hAv hBv hb)
    | (have _t := tok7; refine wl_allocA rfl zero_num rfl (fun W17 a7 hb => ?_); have q7 := And.intro b2.lt (And.intro b4.lt r6.lt); replace hB := below_step hB hb; replace b2 := b2.keep hb; replace b4 := b4.keep hb; replace r6 := r6.keep hb; have z7 := numV_size (List.replicate 24 0); clear hb tok7 _t)
    | (have _t := tok8; refine wl_allocA rfl zero_num rfl (fun W18 a8 hb => ?_); have q8 := And.intro b2.lt (And.intro b4.lt (And.intro r6.lt a7.lt)); replace hB := below_step hB hb; replace b2 := b2.keep hb; replace b4 := b4.keep hb; replace r6 := r6.keep hb; replace a7 := a7.keep hb; have z8 := numV_size (List.replicate 24 0); clear hb tok8 _t)
    | (refine wl_storeA a7 rfl _ _ rfl rfl rfl (agg_num Al) (by rw [numV_size, numV_size, Al]; rfl) (numV_oneL A) rfl (fun W27 e7 hg => ?_); replace b2 := b2.far hg (by omega); replace b4 := b4.far hg (by omega); replace r6 := r6.far hg (by omega); replace a8 := a8.far hg (by omega); replace hB := below_far hB hB.size (by omega) hg; have r7 : Row24 W27 _ A := ⟨e7, Al⟩; clear hg a7 e7)
    | (refine wl_storeA a8 rfl _ _ rfl rfl rfl (agg_num Bl) (by rw [numV_size, numV_size, Bl]; rfl) (numV_oneL B) rfl (fun W28 e8 hg => ?_); replace b2 := b2.far hg (by omega); replace b4 := b4.far hg (by omega); replace r6 := r6.far hg (by omega); replace r7 := r7.far hg (by omega); replace hB := below_far hB hB.size (by omega) hg; have r8 : Row24 W28 _ B := ⟨e8, Bl⟩; clear hg a8 e8))
  refine wp_region_held_drew (S := fun W : World => Below w.heap.size w W ∧ Blk W w.heap.size 23 #[.bool n, .string s, .int .i64 (T : Int)] ∧ Blk W W2.heap.size 23 #[.bool false, .string ⟨#[]⟩, .int .i64 0] ∧ Row24 W W7.heap.size U ∧ Row24 W W8.heap.size A ∧ Row24 W W17.heap.size B) (by kernel_rfl) ⟨below_step hB (below_drew _), b2.drew, b4.drew, r6.drewR, r7.drewR, r8.drewR⟩ (fun hS => ?_)
  refine takeH (i := 0) (d := some 42) (v := _) rfl rfl (by kernel_rfl) (by kernel_rfl) (by kernel_rfl) (fun _ _ _ h => h) (yields_A rfl (by rfl) (agg_num Bl) _ rfl rfl (fun W hW => hW.2.2.2.2.2.blk)) hS ?_
  simp only [Act.put, List.setIfInBounds_toArray, List.set_cons_zero, List.set_cons_succ]
  refine takeH (i := 1) (d := some 43) (v := _) rfl rfl (by kernel_rfl) (by kernel_rfl) (by kernel_rfl) (fun _ _ _ h => h) (yields_A rfl (by rfl) (agg_num Bl) _ rfl rfl (fun W hW => hW.2.2.2.2.2.blk)) hS ?_
  simp only [Act.put, List.setIfInBounds_toArray, List.set_cons_zero, List.set_cons_succ]
  refine takeH (i := 3) (d := some 45) (v := _) rfl rfl (by kernel_rfl) (by kernel_rfl) (by kernel_rfl) (fun _ _ _ h => h) (yields_A rfl (by rfl) (agg_num Ul) _ rfl rfl (fun W hW => hW.2.2.2.1.blk)) hS ?_
  simp only [Act.put, List.setIfInBounds_toArray, List.set_cons_zero, List.set_cons_succ]
  refine wpAnyH_ready (rs := [2]) (by kernel_rfl) (by simp) ?_
  refine AllReadyH.cons rfl (fun Kc hKc => ?_) AllReadyH.nil
  go_simp
  refine (pplus_any B B HBB.out.1 HBB.out.1 _).mono ?_
  rintro e W9 ⟨⟨O, rfl, hO, hOv⟩, hb⟩
  have HOO := Lib.hid (show Num O ∧ Dc.valB O = 2 * R by have h1 := HRL.out; have h2 := HTP.out.2.1; exact ⟨hO, by rw [hOv, HBB.out.2, Nat.mod_eq_of_lt (by omega), Nat.two_mul]⟩)
  clear hO hOv
  refine hKc.out _ _ ⟨below_step hS.1 hb, hS.2.1.keep hb, hS.2.2.1.keep hb, hS.2.2.2.1.keep hb, hS.2.2.2.2.1.keep hb, hS.2.2.2.2.2.keep hb⟩ (fun hS => ?_)
  clear hKc Kc
  refine wpAnyH_ready (rs := [4]) (by kernel_rfl) (by simp) ?_
  refine AllReadyH.cons rfl (fun Kc hKc => ?_) AllReadyH.nil
  go_simp
  refine (pcmp_k O U HOO.out.1 HU.out.1 _ _ HOO.out.2 HU.out.2 0 HA.out _).mono ?_
  rintro e W10 ⟨rfl, hb⟩
  refine hKc.out _ _ ⟨below_step hS.1 hb, hS.2.1.keep hb, hS.2.2.1.keep hb, hS.2.2.2.1.keep hb, hS.2.2.2.2.1.keep hb, hS.2.2.2.2.2.keep hb⟩ (fun hS => ?_)
  clear hKc Kc
  refine takeH (i := 5) (d := some 9) (v := ?v27) rfl rfl (by kernel_rfl) (by kernel_rfl) (by kernel_rfl) (fun _ _ _ h => h) (Or.inl ⟨by rfl, ?h27⟩) hS ?_
  case h27 => intro W _; go_simp; try with_reducible rfl
  simp only [Act.put, List.setIfInBounds_toArray, List.set_cons_zero, List.set_cons_succ]
  refine wpAnyH_done (by kernel_rfl) ?_ _
  clear b2 b4 r6 r7 r8 hB
  obtain ⟨hB, b2, b4, r6, r7, r8⟩ := hS
  obtain ⟨q0, q0l, q0p, q0e⟩ := num_first HAA.out.1
  have c70 := r7.cell (j := 0) (by decide)
  rw [q0e] at c70
  have hq2 : q0 % 2 = 0 := by rw [q0p, HAA.out.2]; have := HO.out; omega
  go_wp2_with fail
  have HF := HAA
  refine wp_region_held_drew (S := fun W : World => Below w.heap.size w W ∧ Blk W w.heap.size 23 #[.bool n, .string s, .int .i64 (T : Int)] ∧ Row24 W W8.heap.size A) (by kernel_rfl) ⟨below_step hB (below_drew _), b2.drew, r7.drewR⟩ (fun hS => ?_)
  replace b4 := b4.drew
  refine takeH (i := 0) (d := some 62) (v := ?v28) rfl rfl (by kernel_rfl) (by kernel_rfl) (by kernel_rfl) (fun _ _ _ h => h) (Or.inl ⟨by rfl, ?h28⟩) hS ?_
  case h28 => intro W _; go_simp; try with_reducible rfl
  simp only [Act.put, List.setIfInBounds_toArray, List.set_cons_zero, List.set_cons_succ]
  refine takeH (i := 1) (d := some 63) (v := .bool n) rfl rfl (by kernel_rfl) (by kernel_rfl) (by kernel_rfl) (fun _ _ _ h => h) (yields_C rfl (by rfl) (by kernel_rfl) _ rfl (j := 0) rfl rfl (fun W hW => hW.2.1)) hS ?_
  simp only [Act.put, List.setIfInBounds_toArray, List.set_cons_zero, List.set_cons_succ]
  refine takeH (i := 2) (d := some 64) (v := _) rfl rfl (by kernel_rfl) (by kernel_rfl) (by kernel_rfl) (fun _ _ _ h => h) (yields_A rfl (by rfl) (agg_num Al) _ rfl rfl (fun W hW => hW.2.2.blk)) hS ?_
  simp only [Act.put, List.setIfInBounds_toArray, List.set_cons_zero, List.set_cons_succ]
  refine takeH (i := 4) (d := some 66) (v := ?v29) rfl rfl (by kernel_rfl) (by kernel_rfl) (by kernel_rfl) (fun _ _ _ h => h) (Or.inl ⟨by rfl, ?h29⟩) hS ?_
  case h29 => intro W _; go_simp; try with_reducible rfl
  simp only [Act.put, List.setIfInBounds_toArray, List.set_cons_zero, List.set_cons_succ]
  refine wpAnyH_ready (rs := [3]) (by kernel_rfl) (by simp) ?_
  refine AllReadyH.cons rfl (fun Kc hKc => ?_) AllReadyH.nil
  go_simp
  refine (pdigits_any A HF.out.1 _ (HP.out.keep hS.1)).mono ?_
  rintro e W31 ⟨⟨u, rfl, hu⟩, hb⟩
  have HUU := Lib.hid hu
  clear hu
  replace b4 := b4.keep hb
  refine hKc.out _ _ ⟨below_step hS.1 hb, hS.2.1.keep hb, hS.2.2.keep hb⟩ (fun hS => ?_)
  clear hKc Kc
  refine wpAnyH_ready (rs := [5]) (by kernel_rfl) (by simp) ?_
  refine AllReadyH.cons rfl (fun Kc hKc => ?_) AllReadyH.nil
  go_simp
  refine (pof_is n u K (Nat.le_trans (digs_size (k := 61) HUU.out (by rw [HF.out.2]; have h1 := HQL.out; have h2 := HTP.out.2.2.2; omega) (by decide)) (by decide)) (by omega) (digs_all HUU.out) r (by rw [val_of HUU.out, HF.out.2]; exact HRS.out) _).mono ?_
  rintro e W32 ⟨rfl, hb⟩
  replace b4 := b4.keep hb
  refine hKc.out _ _ ⟨below_step hS.1 hb, hS.2.1.keep hb, hS.2.2.keep hb⟩ (fun hS => ?_)
  clear hKc Kc
  refine takeH (i := 6) (d := some 68) (v := ?v30) rfl rfl (by kernel_rfl) (by kernel_rfl) (by kernel_rfl) (fun _ _ _ h => h) (Or.inl ⟨by rfl, ?h30⟩) hS ?_
  case h30 => intro W _; go_simp; try with_reducible rfl
  simp only [Act.put, List.setIfInBounds_toArray, List.set_cons_zero, List.set_cons_succ]
  refine takeH (i := 7) (d := some 69) (v := ?v31) rfl rfl (by kernel_rfl) (by kernel_rfl) (by kernel_rfl) (fun _ _ _ h => h) (Or.inl ⟨by rfl, ?h31⟩) hS ?_
  case h31 => intro W _; go_simp; try with_reducible rfl
  simp only [Act.put, List.setIfInBounds_toArray, List.set_cons_zero, List.set_cons_succ]
  refine wpAnyH_ready (rs := [8]) (by kernel_rfl) (by simp) ?_
  refine AllReadyH.cons rfl (fun Kc hKc => ?_) AllReadyH.nil
  refine st_of rfl (wp_storeA b4 _ _ rfl rfl rfl (by kernel_rfl) rfl rfl rfl (fun W33 b8 hg => ?_))
  refine hKc.out _ _ ⟨below_far hS.1 hS.1.size (by omega) hg, hS.2.1.far hg (by omega), hS.2.2.far hg (by omega)⟩ (fun hS => ?_)
  clear hKc Kc
  refine takeH (i := 9) (d := some 5) (v := ?v32) rfl rfl (by kernel_rfl) (by kernel_rfl) (by kernel_rfl) (fun _ _ _ h => h) (Or.inl ⟨by rfl, ?h32⟩) hS ?_
  case h32 => intro W _; go_simp; try with_reducible rfl
  simp only [Act.put, List.setIfInBounds_toArray, List.set_cons_zero, List.set_cons_succ]
  refine wpAnyH_done (by kernel_rfl) ?_ _
  go_wp2
  exact bodyPost_ret (res_cell_tmp rfl b8 (by kernel_rfl) rfl rfl) rfl ⟨rfl, hS.1⟩
set_option maxRecDepth 100000 in
set_option maxHeartbeats 4000000 in
theorem pRound_D (n : Bool) (s : ByteArray) (T K c : Nat) (hc : T - K = c) (hlt : K < T) (hs : s.size ≤ 60) (hT : T ≤ 60) (hd : Digs s) (hk : okB n s (T : Int) = true) (hA : 2 * (Dc.val (bts s) % 10 ^ c) < 10 ^ c) (r : Res) (hr : resOf (Dc.can n (Dc.val (bts s) / 10 ^ c) K) = r) (w : World) (hP : Pow w) : Calls Tryz.prog 19 #[.agg #[.bool n, .string s, .int .i64 (T : Int)], .int .i64 (K : Int)] w fun e w' => e = .returned (.tuple #[.agg #[.bool r.n, .string r.s, .int .i64 r.S], .int .i64 r.k]) ∧ Below w.heap.size w w' := by
  have C := Lib.hid (pchecked1_yes n s (T : Int) (by omega) hk)
  have d1 : decide ((K : Int) < 0) = false := decide_eq_false (by omega)
  have d2 : decide (60 < (K : Int)) = false := decide_eq_false (by omega)
  have d3 : decide (T ≤ K) = false := decide_eq_false (by omega)
  have hci : (T : Int) - (K : Int) = (c : Int) := by omega
  have hcw : IntKind.i64.wrap ((T : Int) - (K : Int)) = (c : Int) := by rw [IntKind.wrap_i64]; omega
  have hcl : c ≤ 60 := by omega
  have hKl : K ≤ 60 := by omega
  have CZ := Lib.hid (repeat_zeros c (by omega))
  have HDI := Lib.hid hd.all
  have HP : Hid _ := Lib.hid hP
  have hvl := Dc.val_lt hd.all
  rw [bts_length] at hvl
  obtain ⟨V, hV⟩ : ∃ V, Dc.val (bts s) = V := ⟨_, rfl⟩
  rw [hV] at hA hr hvl
  obtain ⟨Q, hQ⟩ : ∃ Q, V / 10 ^ c = Q := ⟨_, rfl⟩
  obtain ⟨R, hR⟩ : ∃ R, V % 10 ^ c = R := ⟨_, rfl⟩
  rw [hR] at hA
  rw [hQ] at hr
  have HA : Hid (cmpI (2 * R) (10 ^ c) = (-1)) := Lib.hid (by unfold cmpI; rw [if_pos (by omega)])
  have HRS := Lib.hid hr
  have HV := Lib.hid hV
  have HQ := Lib.hid hQ
  have HR := Lib.hid hR
  have H60 : Hid ((10 : Nat) ^ c ≤ 10 ^ 60) := Lib.hid (Nat.pow_le_pow_right (by decide) hcl)
  have HQL : Hid (Q < 10 ^ 60) := Lib.hid (by rw [← hQ]; exact Nat.lt_of_le_of_lt (Nat.div_le_self _ _) (Nat.lt_of_lt_of_le hvl (Nat.pow_le_pow_right (by decide) hs)))
  have HRL : Hid (R < 10 ^ 60) := Lib.hid (by rw [← hR]; exact Nat.lt_of_le_of_lt (Nat.mod_le _ _) (Nat.lt_of_lt_of_le hvl (Nat.pow_le_pow_right (by decide) hs)))
  have HTP : Hid ((10 : Nat) ^ 60 * 10 ≤ top ∧ (10 : Nat) ^ 60 + 10 ^ 60 < top ∧ (10 : Nat) ^ 60 + 1 < top ∧ (10 : Nat) ^ 60 + 1 ≤ 10 ^ 61) := Lib.hid (by rw [top_pow]; refine ⟨by decide, by decide, by decide, by decide⟩)
  clear hc hd hk hA hr hvl hV hQ hR hlt hP
  have tok6 : True := trivial
  have tok7 : True := trivial
  have tok8 : True := trivial
  go_enter Tryz.func19, Tryz.ntmps19
  go_upto_region 7 with (first
    | (refine wl_boxA rfl (.tmp 0) rfl rfl (fun W2 b2 hb2 => ?_))
    | (refine wl_allocA rfl zero_dec rfl (fun W4 b4 hb4 => ?_); have l2 := b2.lt; have l22 := hb2.size; replace b2 := b2.keep hb4; have hB := below_step hb2 hb4; clear hb2 hb4)
    | (refine wl_loadA (ty := 23) b2 rfl (by kernel_rfl) _ rfl rfl ?_)
    | (go_at_call 43; refine (C.out _ _ (by simp [World.cell?_alloc_new]) (by simp [World.cell?_alloc_new]) (by simp [World.cell?_alloc_new])).mono ?_; rintro e W5 ⟨rfl, hb⟩; replace hB := below_step (below_step hB (below_new _ _)) hb; replace b2 := (Blk.old b2 _).keep hb; replace b4 := (Blk.old b4 _).keep hb; clear hb)
    | (refine wl_loadC b2 rfl (by kernel_rfl) _ rfl (j := 0) rfl rfl ?_)
    | (refine wl_loadC b2 rfl (by kernel_rfl) _ rfl (j := 1) rfl rfl ?_)
    | (refine wl_loadC b2 rfl (by kernel_rfl) _ rfl (j := 2) rfl rfl ?_)
    | (go_at_call 44; refine (CZ.out _).mono ?_; rintro e W6 ⟨⟨z, rfl, hz⟩, hb⟩; replace hB := below_step hB hb; replace b2 := b2.keep hb; replace b4 := b4.keep hb; have zl : z.size ≤ 60 := (by rw [← bts_length, hz, List.length_replicate]; omega); obtain ⟨un, hun⟩ : ∃ un, (⟨#[49]⟩ : ByteArray) ++ z = un := ⟨_, rfl⟩; have HUN := Lib.hid (show bts un = Dc.digs (10 ^ c) by rw [ten_digs, ← hun, str_add, hz]; rfl); have unl : un.size ≤ 61 := (by rw [← bts_length, HUN.out, ten_digs, List.length_cons, List.length_replicate]; omega); clear hz hb)
    | (go_at_call 54; refine (pparse_any un (by omega) (digs_all HUN.out) _).mono ?_; rintro e W7 ⟨⟨U, rfl, hU, hUv⟩, hb⟩; replace hB := below_step hB hb; replace b2 := b2.keep hb; replace b4 := b4.keep hb; have HU := Lib.hid (show Num U ∧ Dc.valB U = 10 ^ c from ⟨hU, by rw [hUv, val_of HUN.out]⟩); have Ul := hU.len; clear hU hUv hb)
    | (have _t := tok6; refine wl_allocA rfl zero_num rfl (fun W16 a6 hb => ?_); have q6 := And.intro b2.lt (And.intro b4.lt hB.size); replace hB := below_step hB hb; replace b2 := b2.keep hb; replace b4 := b4.keep hb; have z6 := numV_size (List.replicate 24 0); clear hb tok6 _t)
    | (refine wl_storeA a6 rfl _ _ rfl rfl rfl (agg_num Ul) (by rw [numV_size, numV_size, Ul]; rfl) (numV_oneL U) rfl (fun W26 e6 hg => ?_); replace b2 := b2.far hg (by omega); replace b4 := b4.far hg (by omega); replace hB := below_far hB hB.size (by omega) hg; have r6 : Row24 W26 _ U := ⟨e6, Ul⟩; clear hg a6 e6)
    | (refine wl_loadA r6.blk rfl (agg_num Ul) _ rfl rfl ?_)
    | (go_at_call 49; refine (pover_any s U (by omega) HDI.out HU.out.1 (by rw [HU.out.2]; exact Dc.pow10_pos c) (by rw [HU.out.2]; exact Nat.le_trans (Nat.mul_le_mul_right _ H60.out) HTP.out.1) _).mono ?_; rintro e W8 ⟨⟨A, B, rfl, hA, hB3, hAv, hBv⟩, hb⟩; replace hB := below_step hB hb; replace b2 := b2.keep hb; replace b4 := b4.keep hb; replace r6 := r6.keep hb; have HAA := Lib.hid (show Num A ∧ Dc.valB A = Q from ⟨hA, by rw [hAv, HU.out.2, HV.out, HQ.out]⟩); have HBB := Lib.hid (show Num B ∧ Dc.valB B = R from ⟨hB3, by rw [hBv, HU.out.2, HV.out, HR.out]⟩); have Al := hA.len; have Bl := hB3.len; clear hA hB3 hAv hBv hb)
    | (have _t := tok7; refine wl_allocA rfl zero_num rfl (fun W17 a7 hb => ?_); have q7 := And.intro b2.lt (And.intro b4.lt r6.lt); replace hB := below_step hB hb; replace b2 := b2.keep hb; replace b4 := b4.keep hb; replace r6 := r6.keep hb; have z7 := numV_size (List.replicate 24 0); clear hb tok7 _t)
    | (have _t := tok8; refine wl_allocA rfl zero_num rfl (fun W18 a8 hb => ?_); have q8 := And.intro b2.lt (And.intro b4.lt (And.intro r6.lt a7.lt)); replace hB := below_step hB hb; replace b2 := b2.keep hb; replace b4 := b4.keep hb; replace r6 := r6.keep hb; replace a7 := a7.keep hb; have z8 := numV_size (List.replicate 24 0); clear hb tok8 _t)
    | (refine wl_storeA a7 rfl _ _ rfl rfl rfl (agg_num Al) (by rw [numV_size, numV_size, Al]; rfl) (numV_oneL A) rfl (fun W27 e7 hg => ?_); replace b2 := b2.far hg (by omega); replace b4 := b4.far hg (by omega); replace r6 := r6.far hg (by omega); replace a8 := a8.far hg (by omega); replace hB := below_far hB hB.size (by omega) hg; have r7 : Row24 W27 _ A := ⟨e7, Al⟩; clear hg a7 e7)
    | (refine wl_storeA a8 rfl _ _ rfl rfl rfl (agg_num Bl) (by rw [numV_size, numV_size, Bl]; rfl) (numV_oneL B) rfl (fun W28 e8 hg => ?_); replace b2 := b2.far hg (by omega); replace b4 := b4.far hg (by omega); replace r6 := r6.far hg (by omega); replace r7 := r7.far hg (by omega); replace hB := below_far hB hB.size (by omega) hg; have r8 : Row24 W28 _ B := ⟨e8, Bl⟩; clear hg a8 e8))
  refine wp_region_held_drew (S := fun W : World => Below w.heap.size w W ∧ Blk W w.heap.size 23 #[.bool n, .string s, .int .i64 (T : Int)] ∧ Blk W W2.heap.size 23 #[.bool false, .string ⟨#[]⟩, .int .i64 0] ∧ Row24 W W7.heap.size U ∧ Row24 W W8.heap.size A ∧ Row24 W W17.heap.size B) (by kernel_rfl) ⟨below_step hB (below_drew _), b2.drew, b4.drew, r6.drewR, r7.drewR, r8.drewR⟩ (fun hS => ?_)
  refine takeH (i := 0) (d := some 42) (v := _) rfl rfl (by kernel_rfl) (by kernel_rfl) (by kernel_rfl) (fun _ _ _ h => h) (yields_A rfl (by rfl) (agg_num Bl) _ rfl rfl (fun W hW => hW.2.2.2.2.2.blk)) hS ?_
  simp only [Act.put, List.setIfInBounds_toArray, List.set_cons_zero, List.set_cons_succ]
  refine takeH (i := 1) (d := some 43) (v := _) rfl rfl (by kernel_rfl) (by kernel_rfl) (by kernel_rfl) (fun _ _ _ h => h) (yields_A rfl (by rfl) (agg_num Bl) _ rfl rfl (fun W hW => hW.2.2.2.2.2.blk)) hS ?_
  simp only [Act.put, List.setIfInBounds_toArray, List.set_cons_zero, List.set_cons_succ]
  refine takeH (i := 3) (d := some 45) (v := _) rfl rfl (by kernel_rfl) (by kernel_rfl) (by kernel_rfl) (fun _ _ _ h => h) (yields_A rfl (by rfl) (agg_num Ul) _ rfl rfl (fun W hW => hW.2.2.2.1.blk)) hS ?_
  simp only [Act.put, List.setIfInBounds_toArray, List.set_cons_zero, List.set_cons_succ]
  refine wpAnyH_ready (rs := [2]) (by kernel_rfl) (by simp) ?_
  refine AllReadyH.cons rfl (fun Kc hKc => ?_) AllReadyH.nil
  go_simp
  refine (pplus_any B B HBB.out.1 HBB.out.1 _).mono ?_
  rintro e W9 ⟨⟨O, rfl, hO, hOv⟩, hb⟩
  have HOO := Lib.hid (show Num O ∧ Dc.valB O = 2 * R by have h1 := HRL.out; have h2 := HTP.out.2.1; exact ⟨hO, by rw [hOv, HBB.out.2, Nat.mod_eq_of_lt (by omega), Nat.two_mul]⟩)
  clear hO hOv
  refine hKc.out _ _ ⟨below_step hS.1 hb, hS.2.1.keep hb, hS.2.2.1.keep hb, hS.2.2.2.1.keep hb, hS.2.2.2.2.1.keep hb, hS.2.2.2.2.2.keep hb⟩ (fun hS => ?_)
  clear hKc Kc
  refine wpAnyH_ready (rs := [4]) (by kernel_rfl) (by simp) ?_
  refine AllReadyH.cons rfl (fun Kc hKc => ?_) AllReadyH.nil
  go_simp
  refine (pcmp_k O U HOO.out.1 HU.out.1 _ _ HOO.out.2 HU.out.2 (-1) HA.out _).mono ?_
  rintro e W10 ⟨rfl, hb⟩
  refine hKc.out _ _ ⟨below_step hS.1 hb, hS.2.1.keep hb, hS.2.2.1.keep hb, hS.2.2.2.1.keep hb, hS.2.2.2.2.1.keep hb, hS.2.2.2.2.2.keep hb⟩ (fun hS => ?_)
  clear hKc Kc
  refine takeH (i := 5) (d := some 9) (v := ?v33) rfl rfl (by kernel_rfl) (by kernel_rfl) (by kernel_rfl) (fun _ _ _ h => h) (Or.inl ⟨by rfl, ?h33⟩) hS ?_
  case h33 => intro W _; go_simp; try with_reducible rfl
  simp only [Act.put, List.setIfInBounds_toArray, List.set_cons_zero, List.set_cons_succ]
  refine wpAnyH_done (by kernel_rfl) ?_ _
  clear b2 b4 r6 r7 r8 hB
  obtain ⟨hB, b2, b4, r6, r7, r8⟩ := hS
  go_wp2_with fail
  have HF := HAA
  refine wp_region_held_drew (S := fun W : World => Below w.heap.size w W ∧ Blk W w.heap.size 23 #[.bool n, .string s, .int .i64 (T : Int)] ∧ Row24 W W8.heap.size A) (by kernel_rfl) ⟨below_step hB (below_drew _), b2.drew, r7.drewR⟩ (fun hS => ?_)
  replace b4 := b4.drew
  refine takeH (i := 0) (d := some 62) (v := ?v34) rfl rfl (by kernel_rfl) (by kernel_rfl) (by kernel_rfl) (fun _ _ _ h => h) (Or.inl ⟨by rfl, ?h34⟩) hS ?_
  case h34 => intro W _; go_simp; try with_reducible rfl
  simp only [Act.put, List.setIfInBounds_toArray, List.set_cons_zero, List.set_cons_succ]
  refine takeH (i := 1) (d := some 63) (v := .bool n) rfl rfl (by kernel_rfl) (by kernel_rfl) (by kernel_rfl) (fun _ _ _ h => h) (yields_C rfl (by rfl) (by kernel_rfl) _ rfl (j := 0) rfl rfl (fun W hW => hW.2.1)) hS ?_
  simp only [Act.put, List.setIfInBounds_toArray, List.set_cons_zero, List.set_cons_succ]
  refine takeH (i := 2) (d := some 64) (v := _) rfl rfl (by kernel_rfl) (by kernel_rfl) (by kernel_rfl) (fun _ _ _ h => h) (yields_A rfl (by rfl) (agg_num Al) _ rfl rfl (fun W hW => hW.2.2.blk)) hS ?_
  simp only [Act.put, List.setIfInBounds_toArray, List.set_cons_zero, List.set_cons_succ]
  refine takeH (i := 4) (d := some 66) (v := ?v35) rfl rfl (by kernel_rfl) (by kernel_rfl) (by kernel_rfl) (fun _ _ _ h => h) (Or.inl ⟨by rfl, ?h35⟩) hS ?_
  case h35 => intro W _; go_simp; try with_reducible rfl
  simp only [Act.put, List.setIfInBounds_toArray, List.set_cons_zero, List.set_cons_succ]
  refine wpAnyH_ready (rs := [3]) (by kernel_rfl) (by simp) ?_
  refine AllReadyH.cons rfl (fun Kc hKc => ?_) AllReadyH.nil
  go_simp
  refine (pdigits_any A HF.out.1 _ (HP.out.keep hS.1)).mono ?_
  rintro e W31 ⟨⟨u, rfl, hu⟩, hb⟩
  have HUU := Lib.hid hu
  clear hu
  replace b4 := b4.keep hb
  refine hKc.out _ _ ⟨below_step hS.1 hb, hS.2.1.keep hb, hS.2.2.keep hb⟩ (fun hS => ?_)
  clear hKc Kc
  refine wpAnyH_ready (rs := [5]) (by kernel_rfl) (by simp) ?_
  refine AllReadyH.cons rfl (fun Kc hKc => ?_) AllReadyH.nil
  go_simp
  refine (pof_is n u K (Nat.le_trans (digs_size (k := 61) HUU.out (by rw [HF.out.2]; have h1 := HQL.out; have h2 := HTP.out.2.2.2; omega) (by decide)) (by decide)) (by omega) (digs_all HUU.out) r (by rw [val_of HUU.out, HF.out.2]; exact HRS.out) _).mono ?_
  rintro e W32 ⟨rfl, hb⟩
  replace b4 := b4.keep hb
  refine hKc.out _ _ ⟨below_step hS.1 hb, hS.2.1.keep hb, hS.2.2.keep hb⟩ (fun hS => ?_)
  clear hKc Kc
  refine takeH (i := 6) (d := some 68) (v := ?v36) rfl rfl (by kernel_rfl) (by kernel_rfl) (by kernel_rfl) (fun _ _ _ h => h) (Or.inl ⟨by rfl, ?h36⟩) hS ?_
  case h36 => intro W _; go_simp; try with_reducible rfl
  simp only [Act.put, List.setIfInBounds_toArray, List.set_cons_zero, List.set_cons_succ]
  refine takeH (i := 7) (d := some 69) (v := ?v37) rfl rfl (by kernel_rfl) (by kernel_rfl) (by kernel_rfl) (fun _ _ _ h => h) (Or.inl ⟨by rfl, ?h37⟩) hS ?_
  case h37 => intro W _; go_simp; try with_reducible rfl
  simp only [Act.put, List.setIfInBounds_toArray, List.set_cons_zero, List.set_cons_succ]
  refine wpAnyH_ready (rs := [8]) (by kernel_rfl) (by simp) ?_
  refine AllReadyH.cons rfl (fun Kc hKc => ?_) AllReadyH.nil
  refine st_of rfl (wp_storeA b4 _ _ rfl rfl rfl (by kernel_rfl) rfl rfl rfl (fun W33 b8 hg => ?_))
  refine hKc.out _ _ ⟨below_far hS.1 hS.1.size (by omega) hg, hS.2.1.far hg (by omega), hS.2.2.far hg (by omega)⟩ (fun hS => ?_)
  clear hKc Kc
  refine takeH (i := 9) (d := some 5) (v := ?v38) rfl rfl (by kernel_rfl) (by kernel_rfl) (by kernel_rfl) (fun _ _ _ h => h) (Or.inl ⟨by rfl, ?h38⟩) hS ?_
  case h38 => intro W _; go_simp; try with_reducible rfl
  simp only [Act.put, List.setIfInBounds_toArray, List.set_cons_zero, List.set_cons_succ]
  refine wpAnyH_done (by kernel_rfl) ?_ _
  go_wp2
  exact bodyPost_ret (res_cell_tmp rfl b8 (by kernel_rfl) rfl rfl) rfl ⟨rfl, hS.1⟩
theorem pround_is (n : Bool) (s : ByteArray) (S K : Int) (hs : s.size ≤ 1000000) (r : Res) (hr : roundR n s S K = r) (w : World) (hP : Pow w) : Calls Tryz.prog 19 #[.agg #[.bool n, .string s, .int .i64 S], .int .i64 K] w fun e w' => e = .returned (.tuple #[.agg #[.bool r.n, .string r.s, .int .i64 r.S], .int .i64 r.k]) ∧ Below w.heap.size w w' := by
  have T : ∀ {p : Prop} [Decidable p], p → decide p = true := fun h => decide_eq_true h
  have N : ∀ {p : Prop} [Decidable p], ¬ p → decide p = false := fun h => decide_eq_false h
  unfold roundR at hr
  cases h1 : okB n s S with
  | false => rw [if_neg (by rw [h1]; simp)] at hr; subst hr; exact pRound_no n s S K hs h1 w
  | true =>
    by_cases h3 : K < 0
    · rw [if_neg (fun h => by have := h.2.1; omega)] at hr; subst hr
      exact pRound_non n s S K hs h1 (T h3) w
    · by_cases h4 : 60 < K
      · rw [if_neg (fun h => by have := h.2.2; omega)] at hr; subst hr
        exact pRound_now n s S K hs h1 (N h3) (T h4) w
      · rw [if_pos ⟨h1, by omega, by omega⟩] at hr
        have k1 := okB_ok h1
        obtain ⟨L, rfl⟩ : ∃ L : Nat, K = L := ⟨K.toNat, by omega⟩
        obtain ⟨V, rfl⟩ : ∃ V : Nat, S = V := ⟨S.toNat, by have := k1.low; omega⟩
        have hV : V ≤ 60 := by have := k1.high; omega
        unfold Dc.roundD at hr
        by_cases hle : V ≤ L
        · rw [if_pos (show (rawD n s (V : Int)).2.2 ≤ (L : Int).toNat from hle), raw_res k1] at hr
          subst hr
          exact pRound_same n s V L hs hle (by omega) h1 w
        · rw [if_neg (show ¬ (rawD n s (V : Int)).2.2 ≤ (L : Int).toNat from hle)] at hr
          have hr' : resOf (Dc.can n (Dc.rndN (Dc.val (bts s)) (V - L)) L) = r := hr
          unfold Dc.rndN at hr'
          by_cases hA : 10 ^ (V - L) < 2 * (Dc.val (bts s) % 10 ^ (V - L))
          · rw [if_pos (.inl hA)] at hr'
            exact pRound_A n s V L _ rfl (by omega) k1.size hV k1.dig h1 hA r hr' w hP
          · by_cases hE : 2 * (Dc.val (bts s) % 10 ^ (V - L)) = 10 ^ (V - L)
            · by_cases hO : Dc.val (bts s) / 10 ^ (V - L) % 2 = 1
              · rw [if_pos (.inr ⟨hE, hO⟩)] at hr'
                exact pRound_B n s V L _ rfl (by omega) k1.size hV k1.dig h1 hE hO r hr' w hP
              · rw [if_neg (fun h => h.elim hA (fun h => hO h.2))] at hr'
                exact pRound_C n s V L _ rfl (by omega) k1.size hV k1.dig h1 hE hO r hr' w hP
            · rw [if_neg (fun h => h.elim hA (fun h => hE h.1))] at hr'
              exact pRound_D n s V L _ rfl (by omega) k1.size hV k1.dig h1 (by omega) r hr' w hP
end Go.Proofs.YthmmjihldkjhhaaGreatDoor
