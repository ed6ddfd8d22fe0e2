/-
  What 'scaled' returns.
-/
import Derived.Test.YthmmjihldkjhhaaGreatDoorPdigits
import Derived.Test.YthmmjihldkjhhaaGreatDoorReg
namespace Go.Proofs.YthmmjihldkjhhaaGreatDoor
open Go Go.RowKit

theorem Row24.blk {W : World} {g : Nat} {l : List Nat} (h : Row24 W g l) : Blk W g 61 (numV l) := h.row
theorem Row24.far {W W' : World} {g r : Nat} {l : List Nat} (h : Row24 W g l) (hb : W.grownBy W' (some r)) (hr : g ≠ r) : Row24 W' g l := ⟨Blk.far h.blk hb hr, h.len⟩
theorem Row24.drewR {W : World} {g : Nat} {l : List Nat} (h : Row24 W g l) : Row24 W.drew g l := ⟨h.row, h.len⟩
theorem agg_num {l : List Nat} (h : l.length = 24) : aggT 61 (numV l).size = true := by rw [numV_size, h]; kernel_rfl
theorem numV_oneL (l : List Nat) : (numV l).toList.all (·.oneCell') = true := by rw [Array.all_toList]; exact numV_one l
theorem zero_num : (Tryz.prog.info? 61).bind (·.zero) = some (.agg (numV (List.replicate 24 0))) := by kernel_rfl
set_option maxRecDepth 100000 in
set_option maxHeartbeats 4000000 in
theorem pscaled_any (n : Bool) (s : ByteArray) (T m : Nat) (hs : s.size ≤ 60) (hd : (bts s).all Dc.dig = true) (hT : T ≤ m) (hm : m ≤ 120) (w : World) : Calls Tryz.prog 50 #[.agg #[.bool n, .string s, .int .i64 (T : Int)], .int .i64 (m : Int)] w fun e w' => (∃ O : List Nat, e = .returned (.agg (numV O)) ∧ Num O ∧ Dc.valB O = Dc.val (bts s) * 10 ^ (m - T)) ∧ Below w.heap.size w w' := by
  obtain ⟨c, hc⟩ : ∃ c, m - T = c := ⟨_, rfl⟩
  have hci : IntKind.i64.wrap ((m : Int) - (T : Int)) = (c : Int) := by rw [IntKind.wrap_i64]; omega
  have C1 : Hid _ := Lib.hid (repeat_zeros c (by omega))
  have HD : Hid _ := Lib.hid hd
  have HC : Hid _ := Lib.hid hc
  have hcl : c ≤ 120 := by omega
  rw [hc]
  clear hd hc
  go_enter Tryz.func50, Tryz.ntmps50
  go_wp2_with (first
    | (refine wl_boxA rfl _ rfl rfl (fun W2 b2 hb2 => ?_))
    | (refine wl_allocA rfl zero_num rfl (fun W4 b4 hb4 => ?_); have k2 := b2.keep hb4; have hB := below_step hb2 hb4; have n24 : w.heap.size ≠ W2.heap.size := Nat.ne_of_lt b2.lt; have hsz := hb2.size; have b4' : Row24 W4.drew W2.heap.size (List.replicate 24 0) := ⟨b4, rfl⟩; clear b4 hb2 hb4 b2))
  refine wp_region_held_drew (S := fun W : World => Below w.heap.size w W ∧ Blk W w.heap.size 23 #[.bool n, .string s, .int .i64 (T : Int)]) (by kernel_rfl) ⟨below_step hB (below_drew _), k2.drew⟩ (fun hS => ?_)
  refine takeH (i := 0) (d := some 5) (v := ?v1) rfl rfl (by kernel_rfl) (by kernel_rfl) (by kernel_rfl) (fun _ _ _ h => h) (Or.inl ⟨by rfl, ?h1⟩) hS ?_
  case h1 => intro W _; go_simp; try with_reducible rfl
  simp only [Act.put, List.setIfInBounds_toArray, List.set_cons_zero, List.set_cons_succ]
  refine takeH (i := 1) (d := some 6) (v := .string s) rfl rfl (by kernel_rfl) (by kernel_rfl) (by kernel_rfl) (fun _ _ _ h => h) (yields_C rfl (by rfl) (by kernel_rfl) _ rfl (j := 1) rfl rfl (fun W hW => hW.2)) hS ?_
  simp only [Act.put, List.setIfInBounds_toArray, List.set_cons_zero, List.set_cons_succ]
  refine takeH (i := 2) (d := some 7) (v := ?v2) rfl rfl (by kernel_rfl) (by kernel_rfl) (by kernel_rfl) (fun _ _ _ h => h) (Or.inl ⟨by rfl, ?h2⟩) hS ?_
  case h2 => intro W _; go_simp; try with_reducible rfl
  simp only [Act.put, List.setIfInBounds_toArray, List.set_cons_zero, List.set_cons_succ]
  refine takeH (i := 3) (d := some 8) (v := ?v3) rfl rfl (by kernel_rfl) (by kernel_rfl) (by kernel_rfl) (fun _ _ _ h => h) (Or.inl ⟨by rfl, ?h3⟩) hS ?_
  case h3 => intro W _; go_simp; try with_reducible rfl
  simp only [Act.put, List.setIfInBounds_toArray, List.set_cons_zero, List.set_cons_succ]
  refine takeH (i := 4) (d := some 9) (v := .int .i64 (T : Int)) rfl rfl (by kernel_rfl) (by kernel_rfl) (by kernel_rfl) (fun _ _ _ h => h) (yields_C rfl (by rfl) (by kernel_rfl) _ rfl (j := 2) rfl rfl (fun W hW => hW.2)) hS ?_
  simp only [Act.put, List.setIfInBounds_toArray, List.set_cons_zero, List.set_cons_succ]
  refine takeH (i := 5) (d := some 10) (v := ?v4) rfl rfl (by kernel_rfl) (by kernel_rfl) (by kernel_rfl) (fun _ _ _ h => h) (Or.inl ⟨by rfl, ?h4⟩) hS ?_
  case h4 => intro W _; go_simp; try with_reducible rfl
  simp only [Act.put, List.setIfInBounds_toArray, List.set_cons_zero, List.set_cons_succ]
  refine wpAnyH_ready (rs := [6]) (by kernel_rfl) (by simp) ?_
  refine AllReadyH.cons rfl (fun Kc hKc => ?_) AllReadyH.nil
  go_simp
  refine (C1.out _).mono ?_
  rintro e W5 ⟨⟨r, rfl, hr⟩, hb⟩
  replace b4' := b4'.keep hb
  have hrl : r.size ≤ 120 := by rw [← bts_length, hr, List.length_replicate]; omega
  obtain ⟨u, hu⟩ : ∃ u, s ++ r = u := ⟨_, rfl⟩
  have hub : bts u = bts s ++ List.replicate c 48 := by rw [← hu, str_add, hr]
  have HU : Hid _ := Lib.hid hub
  clear hr hub
  refine hKc.out _ _ ⟨below_step hS.1 hb, hS.2.keep hb⟩ (fun hS => ?_)
  clear hKc Kc
  refine takeH (i := 7) (d := some 12) (v := ?v5) rfl rfl (by kernel_rfl) (by kernel_rfl) (by kernel_rfl) (fun _ _ _ h => h) (Or.inl ⟨by rfl, ?h5⟩) hS ?_
  case h5 => intro W _; have hq : ¬ 9223372036854775807 < s.size + r.size := (by omega); go_simp; try with_reducible rfl
  simp only [Act.put, List.setIfInBounds_toArray, List.set_cons_zero, List.set_cons_succ]
  refine wpAnyH_ready (rs := [8]) (by kernel_rfl) (by simp) ?_
  refine AllReadyH.cons rfl (fun Kc hKc => ?_) AllReadyH.nil
  go_simp
  refine (pparse_any u (by rw [← bts_length, HU.out, List.length_append, bts_length, List.length_replicate]; omega) (by rw [HU.out, List.all_append, HD.out, Dc.zeros_dig]; rfl) _).mono ?_
  rintro e W6 ⟨⟨O, rfl, hO⟩, hb⟩
  replace b4' := b4'.keep hb
  have hOl := hO.1.len
  have HO : Hid _ := Lib.hid hO
  clear hO
  refine hKc.out _ _ ⟨below_step hS.1 hb, hS.2.keep hb⟩ (fun hS => ?_)
  clear hKc Kc
  refine wpAnyH_ready (rs := [9]) (by kernel_rfl) (by simp) ?_
  refine AllReadyH.cons rfl (fun Kc hKc => ?_) AllReadyH.nil
  refine st_of rfl (wp_storeA b4'.blk _ _ rfl rfl rfl (agg_num hOl) (by rw [numV_size, numV_size, hOl]; rfl) (numV_oneL O) rfl (fun W7 b7 hg => ?_))
  refine hKc.out _ _ ⟨below_far hS.1 hS.1.size (by omega) hg, hS.2.far hg (by omega)⟩ (fun hS => ?_)
  clear hKc Kc
  refine wpAnyH_done (by kernel_rfl) ?_ _
  go_wp2
  refine bodyPost_ret (res_cell rfl b7 (agg_num hOl) rfl) rfl ⟨⟨O, rfl, HO.out.1, by rw [HO.out.2, HU.out, Dc.val_zeros_back]⟩, hS.1⟩
end Go.Proofs.YthmmjihldkjhhaaGreatDoor
