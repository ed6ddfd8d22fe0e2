/-
  What Read of the program returns. Conditions: the size; the library's variable.
-/
import Derived.Test.YthmmjihldkjhhaaGreatDoorRdtext
import Derived.Test.YthmmjihldkjhhaaGreatDoorPadd
namespace Go.Proofs.YthmmjihldkjhhaaGreatDoor
open Go Go.RowKit

/-- The variables that decimals' functions read stand. -/
structure Good (w : World) : Prop where
  pow : Pow w
  mx : ∃ m : Int, w.cell? ⟨0, 0, none⟩ = some (.int .i64 m)
theorem Good.next {w w' : World} (h : Good w) (hb : Below w.heap.size w w') : Good w' := by
  refine ⟨h.pow.keep hb, ?_⟩
  obtain ⟨m, hm⟩ := h.mx
  have hlt := World.block_lt_of_cell? w _ hm
  exact ⟨m, (hb.cell (p := ⟨0, 0, none⟩) hlt).trans hm⟩
theorem prefix1 (l : List UInt8) (c : UInt8) : Lib.hasPrefix l [c] = decide ((l.map UInt8.toNat).head? = some c.toNat) := by
  cases l with
  | nil => rfl
  | cons b r =>
    unfold Lib.hasPrefix
    rw [Bool.eq_iff_iff]
    simp [List.isPrefixOf]
    constructor
    · intro h; rw [h]
    · intro h; exact (UInt8.toNat_inj.1 h).symm
theorem pref_any (s : ByteArray) (c : UInt8) (r : Bool) (h : decide ((bts s).head? = some c.toNat) = r) (w : World) : Calls Tryz.prog 37 #[.string s, .string ⟨#[c]⟩] w fun e w' => e = .returned (.bool r) ∧ w = w' := by
  refine (Tryz.strings_HasPrefix s ⟨#[c]⟩ w).mono ?_
  rintro e w' ⟨rfl, hw⟩
  refine ⟨?_, hw.symm⟩
  have e1 : Lib.hasPrefix s.data.toList [c] = r := by rw [prefix1]; exact h
  rw [← e1]
theorem cut_cons (b : UInt8) (l : List UInt8) (h : b ≠ 46) : (Lib.cut (b :: l) [46]).1 = b :: (Lib.cut l [46]).1 ∧ (Lib.cut (b :: l) [46]).2.1 = (Lib.cut l [46]).2.1 := by
  have hp : ([46] : List UInt8).isPrefixOf (b :: l) = false := by simp [List.isPrefixOf]; exact fun e => h e.symm
  have hg := Lib.index_ge l [46]
  have hi0 : Lib.index (b :: l) [46] = if Lib.index l [46] == -1 then -1 else Lib.index l [46] + 1 := by rw [Lib.index, hp]; rfl
  unfold Lib.cut
  rw [hi0]
  by_cases hi : Lib.index l [46] = -1
  · rw [hi]; exact ⟨rfl, rfl⟩
  · obtain ⟨k, hk⟩ : ∃ k : Nat, Lib.index l [46] = k := ⟨(Lib.index l [46]).toNat, by omega⟩
    rw [hk]
    have e : ((k : Int) == -1) = false := beq_eq_false_iff_ne.2 (by omega)
    rw [e]
    simp only [Bool.false_eq_true, if_false]
    rw [if_pos (by omega), if_pos (by omega), show ((k : Int) + 1).toNat = k + 1 by omega, Int.toNat_natCast]
    exact ⟨rfl, rfl⟩
theorem cut_dot : ∀ l : List UInt8, (Lib.cut l [46]).1.map UInt8.toNat = Dc.whole (l.map UInt8.toNat) ∧ (Lib.cut l [46]).2.1.map UInt8.toNat = Dc.part (l.map UInt8.toNat)
  | [] => ⟨rfl, rfl⟩
  | b :: l => by
    by_cases hb : b = 46
    · subst hb
      have : Lib.index (46 :: l) [46] = 0 := by rw [Lib.index]; rfl
      unfold Lib.cut
      rw [this]
      exact ⟨rfl, rfl⟩
    · obtain ⟨h1, h2⟩ := cut_cons b l hb
      obtain ⟨i1, i2⟩ := cut_dot l
      have hn : b.toNat ≠ 46 := fun e => hb (UInt8.toNat_inj.1 e)
      rw [h1, h2, List.map_cons, List.map_cons, i1, i2]
      unfold Dc.whole Dc.part
      rw [List.takeWhile_cons, List.dropWhile_cons, decide_eq_true hn]
      exact ⟨rfl, rfl⟩
theorem cut_any (s : ByteArray) (hs : s.size ≤ 1000000) (w : World) (hG : Good w) : Calls Tryz.prog 38 #[.string s, .string ⟨#[46]⟩] w fun e w' => (∃ (a b : ByteArray) (f : Bool), e = .returned (.tuple #[.string a, .string b, .bool f]) ∧ bts a = Dc.whole (bts s) ∧ bts b = Dc.part (bts s)) ∧ Below w.heap.size w w' := by
  obtain ⟨m, hm⟩ := hG.mx
  refine (Tryz.strings_Cut s ⟨#[46]⟩ m w (by omega) hm).mono ?_
  rintro e w' ⟨rfl, n, rfl⟩
  have h := cut_dot s.data.toList
  exact ⟨⟨_, _, _, rfl, h.1, h.2⟩, below_drewN (Below.refl _ _) n⟩
theorem ponly_r (s : ByteArray) (hs : s.size ≤ 1000000) (r : Bool) (hr : onlyB s = r) (w : World) : Calls Tryz.prog 39 #[.string s] w fun e w' => e = .returned (.bool r) ∧ w = w' := by
  rw [← hr]; exact ponly_any s (by omega) w
set_option maxRecDepth 100000 in
set_option maxHeartbeats 4000000 in
theorem pread_minus_true (s : ByteArray) (hs : s.size ≤ 400) (h1 : (bts s).head? = some 45) (ho : ∀ m, Dc.unsign (bts s) = (true, m) → onlyL (allL m) = true) (w : World) (hG : Good w) : Calls Tryz.prog 9 #[.string s] w fun e w' => e = (readR (bts s)).ret ∧ Below w.heap.size w w' := by
  have hp := (head_byte h1).1
  have CP1 := Lib.hid (pref_any s 45 true (decide_eq_true h1))
  obtain ⟨t, ht⟩ : ∃ t, s.extract 1 s.size = t := ⟨_, rfl⟩
  have hu := Lib.hid (show Dc.unsign (bts s) = (true, bts t) by rw [← ht]; exact unsign_minus h1)
  have htl : t.size ≤ 400 := by rw [← bts_length, ← ht, bts_tail, List.length_tail, bts_length]; omega
  have k1 : (1 : Int) ≤ (s.size : Int) := by omega
  have ho' := Lib.hid (ho _ hu.out)
  have HG := Lib.hid hG
  obtain ⟨r, hr⟩ : ∃ r, readR (bts s) = r := ⟨_, rfl⟩
  have HR := Lib.hid hr
  have HC := Lib.hid (show resOf (Dc.can true (Dc.val (allL (bts t))) (Dc.part (bts t)).length) = r by rw [← hr, readR_yes hu.out ho'.out])
  clear hr
  clear h1 ho hG
  go_enter Tryz.func9, Tryz.ntmps9
  go_wp2_with (first
    | (refine wl_allocA rfl zero_dec rfl (fun W2 b2 hb => ?_); have hB := hb; clear hb)
    | (go_at_call 37; refine (CP1.out _).mono ?_; rintro e w1 ⟨rfl, rfl⟩)
    | (go_at_call 38; refine (cut_any t (by omega) _ (HG.out.next hB)).mono ?_; rintro e W3 ⟨⟨a, b, f, rfl, ha, hb2⟩, hb⟩; replace hB := below_step hB hb; replace b2 := b2.keep hb; have hlen := Dc.whole_part_length (bts t); rw [List.length_append, ← ha, ← hb2, bts_length, bts_length, bts_length] at hlen; obtain ⟨u, hu2⟩ : ∃ u, a ++ b = u := ⟨_, rfl⟩; have HU := Lib.hid (show bts u = allL (bts t) by rw [← hu2, str_add, ha, hb2]; rfl); have HBL := Lib.hid (show b.size = (Dc.part (bts t)).length by rw [← bts_length, hb2]); have hul : u.size ≤ 400 := (by rw [← hu2, ← bts_length, str_add, List.length_append, bts_length, bts_length]; omega); have hal : a.size ≤ 400 := (by omega); have hbl : b.size ≤ 400 := (by omega); clear hb ha hb2 hlen)
    | (go_at_call 39; refine (ponly_r u (by omega) true (by rw [onlyB_L, HU.out, ho'.out]) _).mono ?_; rintro e w4 ⟨rfl, rfl⟩)
    | (go_at_call 40; refine (pof_is true u b.size (by omega) (by omega) (by have h := ho'.out; unfold onlyL at h; rw [Bool.and_eq_true] at h; rw [HU.out]; exact h.1) r (by rw [HU.out, HBL.out]; exact HC.out) _).mono ?_; rintro e W5 ⟨rfl, hb⟩; replace hB := below_step hB hb; replace b2 := b2.keep hb; clear hb)
    | (refine wl_storeA b2 rfl _ _ rfl rfl rfl (by kernel_rfl) rfl rfl rfl (fun W8 b8 hg => ?_); have hB8 := below_far hB hB.size (Nat.le_refl _) hg; clear hg))
  exact bodyPost_ret (res_cell_tmp rfl b8 (by kernel_rfl) rfl rfl) rfl ⟨by rw [HR.out]; rfl, hB8⟩
set_option maxRecDepth 100000 in
set_option maxHeartbeats 4000000 in
theorem pread_minus_false (s : ByteArray) (hs : s.size ≤ 400) (h1 : (bts s).head? = some 45) (ho : ∀ m, Dc.unsign (bts s) = (true, m) → onlyL (allL m) = false) (w : World) (hG : Good w) : Calls Tryz.prog 9 #[.string s] w fun e w' => e = (readR (bts s)).ret ∧ Below w.heap.size w w' := by
  have hp := (head_byte h1).1
  have CP1 := Lib.hid (pref_any s 45 true (decide_eq_true h1))
  obtain ⟨t, ht⟩ : ∃ t, s.extract 1 s.size = t := ⟨_, rfl⟩
  have hu := Lib.hid (show Dc.unsign (bts s) = (true, bts t) by rw [← ht]; exact unsign_minus h1)
  have htl : t.size ≤ 400 := by rw [← bts_length, ← ht, bts_tail, List.length_tail, bts_length]; omega
  have k1 : (1 : Int) ≤ (s.size : Int) := by omega
  have ho' := Lib.hid (ho _ hu.out)
  have HG := Lib.hid hG
  have HR := Lib.hid (readR_no hu.out ho'.out)
  clear h1 ho hG
  go_enter Tryz.func9, Tryz.ntmps9
  go_wp2_with (first
    | (refine wl_allocA rfl zero_dec rfl (fun W2 b2 hb => ?_); have hB := hb; clear hb)
    | (go_at_call 37; refine (CP1.out _).mono ?_; rintro e w1 ⟨rfl, rfl⟩)
    | (go_at_call 38; refine (cut_any t (by omega) _ (HG.out.next hB)).mono ?_; rintro e W3 ⟨⟨a, b, f, rfl, ha, hb2⟩, hb⟩; replace hB := below_step hB hb; replace b2 := b2.keep hb; have hlen := Dc.whole_part_length (bts t); rw [List.length_append, ← ha, ← hb2, bts_length, bts_length, bts_length] at hlen; obtain ⟨u, hu2⟩ : ∃ u, a ++ b = u := ⟨_, rfl⟩; have HU := Lib.hid (show bts u = allL (bts t) by rw [← hu2, str_add, ha, hb2]; rfl); have HBL := Lib.hid (show b.size = (Dc.part (bts t)).length by rw [← bts_length, hb2]); have hul : u.size ≤ 400 := (by rw [← hu2, ← bts_length, str_add, List.length_append, bts_length, bts_length]; omega); have hal : a.size ≤ 400 := (by omega); have hbl : b.size ≤ 400 := (by omega); clear hb ha hb2 hlen)
    | (go_at_call 39; refine (ponly_r u (by omega) false (by rw [onlyB_L, HU.out, ho'.out]) _).mono ?_; rintro e w4 ⟨rfl, rfl⟩)
    | (refine wl_storeA b2 rfl _ _ rfl rfl rfl (by kernel_rfl) rfl rfl rfl (fun W8 b8 hg => ?_); have hB8 := below_far hB hB.size (Nat.le_refl _) hg; clear hg))
  exact bodyPost_ret (res_cell_tmp rfl b8 (by kernel_rfl) rfl rfl) rfl ⟨by rw [HR.out]; rfl, hB8⟩
set_option maxRecDepth 100000 in
set_option maxHeartbeats 4000000 in
theorem pread_plus_true (s : ByteArray) (hs : s.size ≤ 400) (h1 : (bts s).head? = some 43) (ho : ∀ m, Dc.unsign (bts s) = (false, m) → onlyL (allL m) = true) (w : World) (hG : Good w) : Calls Tryz.prog 9 #[.string s] w fun e w' => e = (readR (bts s)).ret ∧ Below w.heap.size w w' := by
  have hp := (head_byte h1).1
  have CP1 := Lib.hid (pref_any s 45 false (by rw [h1]; rfl))
  have CP2 := Lib.hid (pref_any s 43 true (decide_eq_true h1))
  obtain ⟨t, ht⟩ : ∃ t, s.extract 1 s.size = t := ⟨_, rfl⟩
  have hu := Lib.hid (show Dc.unsign (bts s) = (false, bts t) by rw [← ht]; exact unsign_plus h1)
  have htl : t.size ≤ 400 := by rw [← bts_length, ← ht, bts_tail, List.length_tail, bts_length]; omega
  have k1 : (1 : Int) ≤ (s.size : Int) := by omega
  have ho' := Lib.hid (ho _ hu.out)
  have HG := Lib.hid hG
  obtain ⟨r, hr⟩ : ∃ r, readR (bts s) = r := ⟨_, rfl⟩
  have HR := Lib.hid hr
  have HC := Lib.hid (show resOf (Dc.can false (Dc.val (allL (bts t))) (Dc.part (bts t)).length) = r by rw [← hr, readR_yes hu.out ho'.out])
  clear hr
  clear h1 ho hG
  have tok1 : True := trivial
  go_enter Tryz.func9, Tryz.ntmps9
  go_wp2_with (first
    | (refine wl_allocA rfl zero_dec rfl (fun W2 b2 hb => ?_); have hB := hb; clear hb)
    | (go_at_call 37; have _t := tok1; refine (CP1.out _).mono ?_; rintro e w1 ⟨rfl, rfl⟩; clear tok1 _t)
    | (go_at_call 37; refine (CP2.out _).mono ?_; rintro e w1 ⟨rfl, rfl⟩)
    | (go_at_call 38; refine (cut_any t (by omega) _ (HG.out.next hB)).mono ?_; rintro e W3 ⟨⟨a, b, f, rfl, ha, hb2⟩, hb⟩; replace hB := below_step hB hb; replace b2 := b2.keep hb; have hlen := Dc.whole_part_length (bts t); rw [List.length_append, ← ha, ← hb2, bts_length, bts_length, bts_length] at hlen; obtain ⟨u, hu2⟩ : ∃ u, a ++ b = u := ⟨_, rfl⟩; have HU := Lib.hid (show bts u = allL (bts t) by rw [← hu2, str_add, ha, hb2]; rfl); have HBL := Lib.hid (show b.size = (Dc.part (bts t)).length by rw [← bts_length, hb2]); have hul : u.size ≤ 400 := (by rw [← hu2, ← bts_length, str_add, List.length_append, bts_length, bts_length]; omega); have hal : a.size ≤ 400 := (by omega); have hbl : b.size ≤ 400 := (by omega); clear hb ha hb2 hlen)
    | (go_at_call 39; refine (ponly_r u (by omega) true (by rw [onlyB_L, HU.out, ho'.out]) _).mono ?_; rintro e w4 ⟨rfl, rfl⟩)
    | (go_at_call 40; refine (pof_is false u b.size (by omega) (by omega) (by have h := ho'.out; unfold onlyL at h; rw [Bool.and_eq_true] at h; rw [HU.out]; exact h.1) r (by rw [HU.out, HBL.out]; exact HC.out) _).mono ?_; rintro e W5 ⟨rfl, hb⟩; replace hB := below_step hB hb; replace b2 := b2.keep hb; clear hb)
    | (refine wl_storeA b2 rfl _ _ rfl rfl rfl (by kernel_rfl) rfl rfl rfl (fun W8 b8 hg => ?_); have hB8 := below_far hB hB.size (Nat.le_refl _) hg; clear hg))
  exact bodyPost_ret (res_cell_tmp rfl b8 (by kernel_rfl) rfl rfl) rfl ⟨by rw [HR.out]; rfl, hB8⟩
set_option maxRecDepth 100000 in
set_option maxHeartbeats 4000000 in
theorem pread_plus_false (s : ByteArray) (hs : s.size ≤ 400) (h1 : (bts s).head? = some 43) (ho : ∀ m, Dc.unsign (bts s) = (false, m) → onlyL (allL m) = false) (w : World) (hG : Good w) : Calls Tryz.prog 9 #[.string s] w fun e w' => e = (readR (bts s)).ret ∧ Below w.heap.size w w' := by
  have hp := (head_byte h1).1
  have CP1 := Lib.hid (pref_any s 45 false (by rw [h1]; rfl))
  have CP2 := Lib.hid (pref_any s 43 true (decide_eq_true h1))
  obtain ⟨t, ht⟩ : ∃ t, s.extract 1 s.size = t := ⟨_, rfl⟩
  have hu := Lib.hid (show Dc.unsign (bts s) = (false, bts t) by rw [← ht]; exact unsign_plus h1)
  have htl : t.size ≤ 400 := by rw [← bts_length, ← ht, bts_tail, List.length_tail, bts_length]; omega
  have k1 : (1 : Int) ≤ (s.size : Int) := by omega
  have ho' := Lib.hid (ho _ hu.out)
  have HG := Lib.hid hG
  have HR := Lib.hid (readR_no hu.out ho'.out)
  clear h1 ho hG
  have tok1 : True := trivial
  go_enter Tryz.func9, Tryz.ntmps9
  go_wp2_with (first
    | (refine wl_allocA rfl zero_dec rfl (fun W2 b2 hb => ?_); have hB := hb; clear hb)
    | (go_at_call 37; have _t := tok1; refine (CP1.out _).mono ?_; rintro e w1 ⟨rfl, rfl⟩; clear tok1 _t)
    | (go_at_call 37; refine (CP2.out _).mono ?_; rintro e w1 ⟨rfl, rfl⟩)
    | (go_at_call 38; refine (cut_any t (by omega) _ (HG.out.next hB)).mono ?_; rintro e W3 ⟨⟨a, b, f, rfl, ha, hb2⟩, hb⟩; replace hB := below_step hB hb; replace b2 := b2.keep hb; have hlen := Dc.whole_part_length (bts t); rw [List.length_append, ← ha, ← hb2, bts_length, bts_length, bts_length] at hlen; obtain ⟨u, hu2⟩ : ∃ u, a ++ b = u := ⟨_, rfl⟩; have HU := Lib.hid (show bts u = allL (bts t) by rw [← hu2, str_add, ha, hb2]; rfl); have HBL := Lib.hid (show b.size = (Dc.part (bts t)).length by rw [← bts_length, hb2]); have hul : u.size ≤ 400 := (by rw [← hu2, ← bts_length, str_add, List.length_append, bts_length, bts_length]; omega); have hal : a.size ≤ 400 := (by omega); have hbl : b.size ≤ 400 := (by omega); clear hb ha hb2 hlen)
    | (go_at_call 39; refine (ponly_r u (by omega) false (by rw [onlyB_L, HU.out, ho'.out]) _).mono ?_; rintro e w4 ⟨rfl, rfl⟩)
    | (refine wl_storeA b2 rfl _ _ rfl rfl rfl (by kernel_rfl) rfl rfl rfl (fun W8 b8 hg => ?_); have hB8 := below_far hB hB.size (Nat.le_refl _) hg; clear hg))
  exact bodyPost_ret (res_cell_tmp rfl b8 (by kernel_rfl) rfl rfl) rfl ⟨by rw [HR.out]; rfl, hB8⟩
set_option maxRecDepth 100000 in
set_option maxHeartbeats 4000000 in
theorem pread_none_true (s : ByteArray) (hs : s.size ≤ 400) (h1 : (bts s).head? ≠ some 45) (h2 : (bts s).head? ≠ some 43) (ho : ∀ m, Dc.unsign (bts s) = (false, m) → onlyL (allL m) = true) (w : World) (hG : Good w) : Calls Tryz.prog 9 #[.string s] w fun e w' => e = (readR (bts s)).ret ∧ Below w.heap.size w w' := by
  have CP1 := Lib.hid (pref_any s 45 false (decide_eq_false h1))
  have CP2 := Lib.hid (pref_any s 43 false (decide_eq_false h2))
  have hu := Lib.hid (unsign_none h1 h2)
  have ho' := Lib.hid (ho _ hu.out)
  have HG := Lib.hid hG
  obtain ⟨r, hr⟩ : ∃ r, readR (bts s) = r := ⟨_, rfl⟩
  have HR := Lib.hid hr
  have HC := Lib.hid (show resOf (Dc.can false (Dc.val (allL (bts s))) (Dc.part (bts s)).length) = r by rw [← hr, readR_yes hu.out ho'.out])
  clear hr
  clear h1 h2 ho hG
  have tok1 : True := trivial
  go_enter Tryz.func9, Tryz.ntmps9
  go_wp2_with (first
    | (refine wl_allocA rfl zero_dec rfl (fun W2 b2 hb => ?_); have hB := hb; clear hb)
    | (go_at_call 37; have _t := tok1; refine (CP1.out _).mono ?_; rintro e w1 ⟨rfl, rfl⟩; clear tok1 _t)
    | (go_at_call 37; refine (CP2.out _).mono ?_; rintro e w1 ⟨rfl, rfl⟩)
    | (go_at_call 38; refine (cut_any s (by omega) _ (HG.out.next hB)).mono ?_; rintro e W3 ⟨⟨a, b, f, rfl, ha, hb2⟩, hb⟩; replace hB := below_step hB hb; replace b2 := b2.keep hb; have hlen := Dc.whole_part_length (bts s); rw [List.length_append, ← ha, ← hb2, bts_length, bts_length, bts_length] at hlen; obtain ⟨u, hu2⟩ : ∃ u, a ++ b = u := ⟨_, rfl⟩; have HU := Lib.hid (show bts u = allL (bts s) by rw [← hu2, str_add, ha, hb2]; rfl); have HBL := Lib.hid (show b.size = (Dc.part (bts s)).length by rw [← bts_length, hb2]); have hul : u.size ≤ 400 := (by rw [← hu2, ← bts_length, str_add, List.length_append, bts_length, bts_length]; omega); have hal : a.size ≤ 400 := (by omega); have hbl : b.size ≤ 400 := (by omega); clear hb ha hb2 hlen)
    | (go_at_call 39; refine (ponly_r u (by omega) true (by rw [onlyB_L, HU.out, ho'.out]) _).mono ?_; rintro e w4 ⟨rfl, rfl⟩)
    | (go_at_call 40; refine (pof_is false u b.size (by omega) (by omega) (by have h := ho'.out; unfold onlyL at h; rw [Bool.and_eq_true] at h; rw [HU.out]; exact h.1) r (by rw [HU.out, HBL.out]; exact HC.out) _).mono ?_; rintro e W5 ⟨rfl, hb⟩; replace hB := below_step hB hb; replace b2 := b2.keep hb; clear hb)
    | (refine wl_storeA b2 rfl _ _ rfl rfl rfl (by kernel_rfl) rfl rfl rfl (fun W8 b8 hg => ?_); have hB8 := below_far hB hB.size (Nat.le_refl _) hg; clear hg))
  exact bodyPost_ret (res_cell_tmp rfl b8 (by kernel_rfl) rfl rfl) rfl ⟨by rw [HR.out]; rfl, hB8⟩
set_option maxRecDepth 100000 in
set_option maxHeartbeats 4000000 in
theorem pread_none_false (s : ByteArray) (hs : s.size ≤ 400) (h1 : (bts s).head? ≠ some 45) (h2 : (bts s).head? ≠ some 43) (ho : ∀ m, Dc.unsign (bts s) = (false, m) → onlyL (allL m) = false) (w : World) (hG : Good w) : Calls Tryz.prog 9 #[.string s] w fun e w' => e = (readR (bts s)).ret ∧ Below w.heap.size w w' := by
  have CP1 := Lib.hid (pref_any s 45 false (decide_eq_false h1))
  have CP2 := Lib.hid (pref_any s 43 false (decide_eq_false h2))
  have hu := Lib.hid (unsign_none h1 h2)
  have ho' := Lib.hid (ho _ hu.out)
  have HG := Lib.hid hG
  have HR := Lib.hid (readR_no hu.out ho'.out)
  clear h1 h2 ho hG
  have tok1 : True := trivial
  go_enter Tryz.func9, Tryz.ntmps9
  go_wp2_with (first
    | (refine wl_allocA rfl zero_dec rfl (fun W2 b2 hb => ?_); have hB := hb; clear hb)
    | (go_at_call 37; have _t := tok1; refine (CP1.out _).mono ?_; rintro e w1 ⟨rfl, rfl⟩; clear tok1 _t)
    | (go_at_call 37; refine (CP2.out _).mono ?_; rintro e w1 ⟨rfl, rfl⟩)
    | (go_at_call 38; refine (cut_any s (by omega) _ (HG.out.next hB)).mono ?_; rintro e W3 ⟨⟨a, b, f, rfl, ha, hb2⟩, hb⟩; replace hB := below_step hB hb; replace b2 := b2.keep hb; have hlen := Dc.whole_part_length (bts s); rw [List.length_append, ← ha, ← hb2, bts_length, bts_length, bts_length] at hlen; obtain ⟨u, hu2⟩ : ∃ u, a ++ b = u := ⟨_, rfl⟩; have HU := Lib.hid (show bts u = allL (bts s) by rw [← hu2, str_add, ha, hb2]; rfl); have HBL := Lib.hid (show b.size = (Dc.part (bts s)).length by rw [← bts_length, hb2]); have hul : u.size ≤ 400 := (by rw [← hu2, ← bts_length, str_add, List.length_append, bts_length, bts_length]; omega); have hal : a.size ≤ 400 := (by omega); have hbl : b.size ≤ 400 := (by omega); clear hb ha hb2 hlen)
    | (go_at_call 39; refine (ponly_r u (by omega) false (by rw [onlyB_L, HU.out, ho'.out]) _).mono ?_; rintro e w4 ⟨rfl, rfl⟩)
    | (refine wl_storeA b2 rfl _ _ rfl rfl rfl (by kernel_rfl) rfl rfl rfl (fun W8 b8 hg => ?_); have hB8 := below_far hB hB.size (Nat.le_refl _) hg; clear hg))
  exact bodyPost_ret (res_cell_tmp rfl b8 (by kernel_rfl) rfl rfl) rfl ⟨by rw [HR.out]; rfl, hB8⟩
theorem pread_is (s : ByteArray) (hs : s.size ≤ 400) (r : Res) (hr : readR (bts s) = r) (w : World) (hG : Good w) : Calls Tryz.prog 9 #[.string s] w fun e w' => e = .returned (.tuple #[.agg #[.bool r.n, .string r.s, .int .i64 r.S], .int .i64 r.k]) ∧ Below w.heap.size w w' := by
  subst hr
  by_cases h1 : (bts s).head? = some 45
  · cases ho : onlyL (allL (bts (s.extract 1 s.size))) with
    | true => exact pread_minus_true s hs h1 (fun m hm => by rw [unsign_minus h1] at hm; cases hm; exact ho) w hG
    | false => exact pread_minus_false s hs h1 (fun m hm => by rw [unsign_minus h1] at hm; cases hm; exact ho) w hG
  · by_cases h2 : (bts s).head? = some 43
    · cases ho : onlyL (allL (bts (s.extract 1 s.size))) with
      | true => exact pread_plus_true s hs h2 (fun m hm => by rw [unsign_plus h2] at hm; cases hm; exact ho) w hG
      | false => exact pread_plus_false s hs h2 (fun m hm => by rw [unsign_plus h2] at hm; cases hm; exact ho) w hG
    · cases ho : onlyL (allL (bts s)) with
      | true => exact pread_none_true s hs h1 h2 (fun m hm => by rw [unsign_none h1 h2] at hm; cases hm; exact ho) w hG
      | false => exact pread_none_false s hs h1 h2 (fun m hm => by rw [unsign_none h1 h2] at hm; cases hm; exact ho) w hG
end Go.Proofs.YthmmjihldkjhhaaGreatDoor
