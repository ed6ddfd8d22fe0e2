/-
  Part 20 of the proof: what functions return, and plain facts (Rread). Conditions: each theorem names its own.
-/
import Derived.Test.YthoojcdjjecogaaGreatDoorG10
set_option maxRecDepth 1000000
set_option maxHeartbeats 16000000
namespace Go.Proofs.YthoojcdjjecogaaGreatDoor
open Go Go.RowKit

theorem rdigits_r (s : ByteArray) (hs : s.size <= 1000000) (r : Bool) (hr : onlyB s = r) (w : World) : Calls Tryz.prog 74 #[.string s] w fun e w' => e = .returned (.bool r) /\ w = w' := by
 rw [<- hr]; exact rdigits_any s hs w
def Seen (m : List Nat) (k : Nat) (p : Bool) (al : List Nat) (sc : Nat) : Prop :=
 (p = false /\ k <= (Dc.whole m).length /\ sc = 0) \/ (p = true /\ (Dc.whole m).length < k /\ al = allL m /\ sc = (Dc.part m).length)
theorem Seen.done {m : List Nat} {k : Nat} {al : List Nat} {sc : Nat} (h : Seen m k true al sc) : al = allL m /\ sc = (Dc.part m).length := by
 rcases h with ⟨h, _⟩ | ⟨_, _, h⟩
 ·cases h
 ·exact h
theorem Seen.none {m : List Nat} {al : List Nat} {sc : Nat} (h : Seen m m.length false al sc) : m = allL m /\ sc = (Dc.part m).length := by
 rcases h with ⟨_, h, hs⟩ | ⟨h, _⟩
 ·have h2 := Dc.whole_length m
  obtain ⟨h3, h4⟩ := Dc.whole_all (l := m) (by omega)
  unfold allL
  rw [h4, h3, List.append_nil, hs]; exact ⟨rfl, rfl⟩
 ·cases h
theorem Seen.next {m : List Nat} {k : Nat} {p : Bool} {al : List Nat} {sc : Nat} (h : Seen m k p al sc) (hne : p = true \/ m.getD k 0 ≠ 46) (hk : k < m.length) : Seen m (k + 1) p al sc := by
 rcases h with ⟨h1, h2, h3⟩ | ⟨h1, h2, h3⟩
 ·refine .inl ⟨h1, ?_, h3⟩
  rcases Nat.lt_or_ge k (Dc.whole m).length with h | h
  ·exact h
  ·exfalso
   have e : k = (Dc.whole m).length := by omega
   rcases hne with hp | hp
   ·rw [h1] at hp; cases hp
   ·rw [e] at hp hk
    exact hp (Dc.whole_at hk).1
 ·exact .inr ⟨h1, by omega, h3⟩
theorem Seen.found {m : List Nat} {k : Nat} {al : List Nat} {sc : Nat} (h : Seen m k false al sc) (hc : m.getD k 0 = 46) (hk : k < m.length) : Seen m (k + 1) true (m.take k ++ m.drop (k + 1)) (m.length - k - 1) := by
 rcases h with ⟨_, h2, _⟩ | ⟨h1, _⟩
 ·rcases Nat.lt_or_ge k (Dc.whole m).length with h | h
  ·exact absurd hc (Dc.whole_lt h)
  ·obtain rfl : k = (Dc.whole m).length := by omega
   obtain ⟨_, a2, a3, a4⟩ := Dc.whole_at hk
   exact .inr ⟨rfl, by omega, by unfold allL; rw [a2, a3], by omega⟩
 ·cases h1
theorem rread_minus (s : ByteArray) (hs : s.size <= 400) (h1 : (bts s).head? = some 45) (w : World) : Calls Tryz.prog 63 #[.string s] w fun e w' => e = (readR (bts s)).ret /\ Below w.heap.size w w' := by
 obtain ⟨hp, h0⟩ := head_byte h1
 have he := isEmpty_no hp
 have he2 : (!s.toList.isEmpty) = true := by rw [he]; rfl
 obtain ⟨t, ht⟩ : ∃ t, s.extract 1 s.size = t := ⟨_, rfl⟩
 have hu : Hid (Dc.unsign (bts s) = (true, bts t)) := Lib.hid (by rw [<- ht]; exact unsign_minus h1)
 have htl : t.size <= 400 := by rw [<- bts_length, <- ht, bts_tail, List.length_tail, bts_length]; omega
 have k1 : (1 : Int) <= (s.size : Int) := by omega
 clear h1
 go_enter Tryz.func63, Tryz.ntmps63
 go_upto_region 3 with (first | (refine wl_allocA rfl zero_dec rfl (fun W2 b2 hb => ?_); have hB := hb; clear hb))
 go_quiet (fail)
 go_wp2
 go_loopw [5, 6, 7, 8] (fun v u p i wr => ∃ (k sc : Nat) (al : ByteArray) (q : Bool), k <= t.size /\ i = .int .i64 (k : Int) /\ v = .string al /\ u = .int .i64 (sc : Int) /\ p = .bool q /\ al.size <= 400 /\ sc <= 400 /\ Hid (Seen (bts t) k q (bts al) sc) /\ Blk wr w.heap.size 24 #[.bool false, .string ⟨#[]⟩, .int .i64 0] /\ Below w.heap.size w wr) (fun _ _ _ i _ => t.size - (intOf i).toNat)
 case atStart => exact ⟨0, 0, ⟨#[]⟩, false, Nat.zero_le _, rfl, rfl, rfl, rfl, by decide, by decide, Lib.hid (.inl ⟨rfl, Nat.zero_le _, rfl⟩), b2.drewN _, below_drewN hB _⟩
 case round =>
  clear b2 hB
  obtain ⟨k, sc, al, q, hk, rfl, rfl, rfl, rfl, hal, hsc, hseen, b2, hB⟩ := hrel
  by_cases hlt : k < t.size
  ·obtain ⟨c, hc⟩ : ∃ c, (t[k]'hlt).toNat = c := ⟨_, rfl⟩
   have hcd : Hid ((bts t).getD k 0 = c) := Lib.hid (by rw [<- hc, byte_eq hlt]; rfl)
   by_cases hpt : c = 46
   ·subst hpt
    cases q with
    | true =>
     have hs2 := Lib.hid (hseen.out.next (.inl rfl) (by rw [bts_length]; exact hlt))
     clear hcd hseen
     go_wp2
     go_roundw
     case rel => exact ⟨k + 1, sc, al, true, by omega, by simp, rfl, rfl, rfl, hal, hsc, hs2, b2, hB⟩
     case measure => simp [intOf]; omega
    | false =>
     have hs2 := Lib.hid (hseen.out.found hcd.out (by rw [bts_length]; exact hlt))
     obtain ⟨x, hx⟩ : ∃ x, t.extract 0 k = x := ⟨_, rfl⟩
     obtain ⟨y, hy⟩ : ∃ y, t.extract (k + 1) t.size = y := ⟨_, rfl⟩
     have hbx : bts x = (bts t).take k := by rw [<- hx, bts_extract, List.drop_zero]
     have hby : bts y = (bts t).drop (k + 1) := by rw [<- hy, bts_from]
     have hxl : x.size <= k := by rw [<- bts_length, hbx, List.length_take]; omega
     have hyl : y.size <= 400 - k := by rw [<- bts_length, hby, List.length_drop, bts_length]; omega
     obtain ⟨sc2, hsc2⟩ : ∃ sc2, t.size - k - 1 = sc2 := ⟨_, rfl⟩
     have hse : (t.size : Int) - (k : Int) - 1 = (sc2 : Int) := by omega
     have hscl : sc2 <= 400 := by omega
     have hs3 : Hid (Seen (bts t) (k + 1) true (bts (x ++ y)) sc2) := Lib.hid (by rw [str_add, hbx, hby, <- hsc2, <- bts_length t]; exact hs2.out)
     have k0 : (0 : Int) <= (k : Int) := by omega
     have k1 : (k : Int) <= (t.size : Int) := by omega
     have k2 : (k : Int) + 1 <= (t.size : Int) := by omega
     have hall : (x ++ y).size <= 400 := by rw [<- bts_length, str_add, List.length_append, bts_length, bts_length]; omega
     have HALL : Hid _ := Lib.hid hall
     clear hcd hseen hbx hby hsc2 hs2 hall
     go_wp2
     go_quiet (fail)
     go_wp2
     go_roundw
     case rel => exact ⟨k + 1, sc2, x ++ y, true, by omega, by simp, rfl, rfl, rfl, HALL.out, hscl, hs3, b2.drewN _, below_drewN hB _⟩
     case measure => simp [intOf]; omega
   ·have d : ((c : Int) == 46) = false := beq_no hpt
    have hs2 := Lib.hid (hseen.out.next (.inr (by rw [hcd.out]; exact hpt)) (by rw [bts_length]; exact hlt))
    clear hcd hseen hpt
    go_wp2
    go_roundw
    case rel => exact ⟨k + 1, sc, al, q, by omega, by simp, rfl, rfl, rfl, hal, hsc, hs2, b2, hB⟩
    case measure => simp [intOf]; omega
  ·obtain rfl : k = t.size := by omega
   obtain ⟨x, hxe, hxl⟩ : ∃ x : ByteArray, x = (if q then al else t) /\ x.size <= 400 := ⟨_, rfl, by cases q <;> simp <;> omega⟩
   have hx : Hid (bts x = allL (bts t) /\ sc = (Dc.part (bts t)).length) := Lib.hid (by
    have h := hseen.out
    rw [<- bts_length] at h
    cases q with
    | true => rw [hxe]; exact h.done
    | false => rw [hxe]; exact h.none)
   cases q with
   | true =>
    obtain rfl : al = x := hxe.symm
    clear hseen hxe hlt hk
    cases ho : onlyL (allL (bts t)) with
    | false =>
     have CD := Lib.hid (rdigits_r al (by omega) false (by rw [onlyB_L, hx.out.1, ho]))
     have HR := Lib.hid (readR_no hu.out ho)
     clear ho
     go_wp2_with (first
      | (go_at_call 74; refine (CD.out _).mono ?_; rintro e w4 ⟨rfl, rfl⟩)
      | (refine wl_storeA b2 rfl _ _ rfl rfl rfl (by kernel_rfl) rfl rfl rfl (fun W8 b8 hg => ?_); have hB8 := below_far hB hB.size (Nat.le_refl _) hg; clear hg))
     exact bodyPost_ret (res_cell_tmp rfl b8 (by kernel_rfl) rfl rfl) rfl ⟨by rw [HR.out]; rfl, hB8⟩
    | true =>
     have CD := Lib.hid (rdigits_r al (by omega) true (by rw [onlyB_L, hx.out.1, ho]))
     obtain ⟨r, hr⟩ : ∃ r, readR (bts s) = r := ⟨_, rfl⟩
     have CM := Lib.hid (rmade_is true al sc (by omega) (by omega) (onlyL_digs (by rw [hx.out.1]; exact ho)) r (by rw [<- hr, readR_yes hu.out ho, <- hx.out.2, <- congrArg Dc.val hx.out.1]))
     have HR : Hid _ := Lib.hid hr
     clear ho hr
     go_wp2_with (first
      | (go_at_call 74; refine (CD.out _).mono ?_; rintro e w4 ⟨rfl, rfl⟩)
      | (go_at_call 98; refine (CM.out _).mono ?_; rintro e w5 ⟨rfl, hb⟩; replace hB := below_step hB hb; replace b2 := b2.keep hb; clear hb)
      | (refine wl_storeA b2 rfl _ _ rfl rfl rfl (by kernel_rfl) rfl rfl rfl (fun W8 b8 hg => ?_); have hB8 := below_far hB hB.size (Nat.le_refl _) hg; clear hg))
     exact bodyPost_ret (res_cell_tmp rfl b8 (by kernel_rfl) rfl rfl) rfl ⟨by rw [HR.out]; rfl, hB8⟩
   | false =>
    obtain rfl : t = x := hxe.symm
    clear hseen hxe hlt hk
    cases ho : onlyL (allL (bts t)) with
    | false =>
     have CD := Lib.hid (rdigits_r t (by omega) false (by rw [onlyB_L, hx.out.1, ho]))
     have HR := Lib.hid (readR_no hu.out ho)
     clear ho
     go_wp2_with (first
      | (go_at_call 74; refine (CD.out _).mono ?_; rintro e w4 ⟨rfl, rfl⟩)
      | (refine wl_storeA b2 rfl _ _ rfl rfl rfl (by kernel_rfl) rfl rfl rfl (fun W8 b8 hg => ?_); have hB8 := below_far hB hB.size (Nat.le_refl _) hg; clear hg))
     exact bodyPost_ret (res_cell_tmp rfl b8 (by kernel_rfl) rfl rfl) rfl ⟨by rw [HR.out]; rfl, hB8⟩
    | true =>
     have CD := Lib.hid (rdigits_r t (by omega) true (by rw [onlyB_L, hx.out.1, ho]))
     obtain ⟨r, hr⟩ : ∃ r, readR (bts s) = r := ⟨_, rfl⟩
     have CM := Lib.hid (rmade_is true t sc (by omega) (by omega) (onlyL_digs (by rw [hx.out.1]; exact ho)) r (by rw [<- hr, readR_yes hu.out ho, <- hx.out.2, <- congrArg Dc.val hx.out.1]))
     have HR : Hid _ := Lib.hid hr
     clear ho hr
     go_wp2_with (first
      | (go_at_call 74; refine (CD.out _).mono ?_; rintro e w4 ⟨rfl, rfl⟩)
      | (go_at_call 98; refine (CM.out _).mono ?_; rintro e w5 ⟨rfl, hb⟩; replace hB := below_step hB hb; replace b2 := b2.keep hb; clear hb)
      | (refine wl_storeA b2 rfl _ _ rfl rfl rfl (by kernel_rfl) rfl rfl rfl (fun W8 b8 hg => ?_); have hB8 := below_far hB hB.size (Nat.le_refl _) hg; clear hg))
     exact bodyPost_ret (res_cell_tmp rfl b8 (by kernel_rfl) rfl rfl) rfl ⟨by rw [HR.out]; rfl, hB8⟩
theorem rread_plus (s : ByteArray) (hs : s.size <= 400) (h1 : (bts s).head? = some 43) (w : World) : Calls Tryz.prog 63 #[.string s] w fun e w' => e = (readR (bts s)).ret /\ Below w.heap.size w w' := by
 obtain ⟨hp, h0⟩ := head_byte h1
 have he := isEmpty_no hp
 have he2 : (!s.toList.isEmpty) = true := by rw [he]; rfl
 obtain ⟨t, ht⟩ : ∃ t, s.extract 1 s.size = t := ⟨_, rfl⟩
 have hu : Hid (Dc.unsign (bts s) = (false, bts t)) := Lib.hid (by rw [<- ht]; exact unsign_plus h1)
 have htl : t.size <= 400 := by rw [<- bts_length, <- ht, bts_tail, List.length_tail, bts_length]; omega
 have k1 : (1 : Int) <= (s.size : Int) := by omega
 clear h1
 go_enter Tryz.func63, Tryz.ntmps63
 go_upto_region 3 with (first | (refine wl_allocA rfl zero_dec rfl (fun W2 b2 hb => ?_); have hB := hb; clear hb))
 go_quiet (fail)
 go_wp2
 go_loopw [5, 6, 7, 8] (fun v u p i wr => ∃ (k sc : Nat) (al : ByteArray) (q : Bool), k <= t.size /\ i = .int .i64 (k : Int) /\ v = .string al /\ u = .int .i64 (sc : Int) /\ p = .bool q /\ al.size <= 400 /\ sc <= 400 /\ Hid (Seen (bts t) k q (bts al) sc) /\ Blk wr w.heap.size 24 #[.bool false, .string ⟨#[]⟩, .int .i64 0] /\ Below w.heap.size w wr) (fun _ _ _ i _ => t.size - (intOf i).toNat)
 case atStart => exact ⟨0, 0, ⟨#[]⟩, false, Nat.zero_le _, rfl, rfl, rfl, rfl, by decide, by decide, Lib.hid (.inl ⟨rfl, Nat.zero_le _, rfl⟩), b2.drewN _, below_drewN hB _⟩
 case round =>
  clear b2 hB
  obtain ⟨k, sc, al, q, hk, rfl, rfl, rfl, rfl, hal, hsc, hseen, b2, hB⟩ := hrel
  by_cases hlt : k < t.size
  ·obtain ⟨c, hc⟩ : ∃ c, (t[k]'hlt).toNat = c := ⟨_, rfl⟩
   have hcd : Hid ((bts t).getD k 0 = c) := Lib.hid (by rw [<- hc, byte_eq hlt]; rfl)
   by_cases hpt : c = 46
   ·subst hpt
    cases q with
    | true =>
     have hs2 := Lib.hid (hseen.out.next (.inl rfl) (by rw [bts_length]; exact hlt))
     clear hcd hseen
     go_wp2
     go_roundw
     case rel => exact ⟨k + 1, sc, al, true, by omega, by simp, rfl, rfl, rfl, hal, hsc, hs2, b2, hB⟩
     case measure => simp [intOf]; omega
    | false =>
     have hs2 := Lib.hid (hseen.out.found hcd.out (by rw [bts_length]; exact hlt))
     obtain ⟨x, hx⟩ : ∃ x, t.extract 0 k = x := ⟨_, rfl⟩
     obtain ⟨y, hy⟩ : ∃ y, t.extract (k + 1) t.size = y := ⟨_, rfl⟩
     have hbx : bts x = (bts t).take k := by rw [<- hx, bts_extract, List.drop_zero]
     have hby : bts y = (bts t).drop (k + 1) := by rw [<- hy, bts_from]
     have hxl : x.size <= k := by rw [<- bts_length, hbx, List.length_take]; omega
     have hyl : y.size <= 400 - k := by rw [<- bts_length, hby, List.length_drop, bts_length]; omega
     obtain ⟨sc2, hsc2⟩ : ∃ sc2, t.size - k - 1 = sc2 := ⟨_, rfl⟩
     have hse : (t.size : Int) - (k : Int) - 1 = (sc2 : Int) := by omega
     have hscl : sc2 <= 400 := by omega
     have hs3 : Hid (Seen (bts t) (k + 1) true (bts (x ++ y)) sc2) := Lib.hid (by rw [str_add, hbx, hby, <- hsc2, <- bts_length t]; exact hs2.out)
     have k0 : (0 : Int) <= (k : Int) := by omega
     have k1 : (k : Int) <= (t.size : Int) := by omega
     have k2 : (k : Int) + 1 <= (t.size : Int) := by omega
     have hall : (x ++ y).size <= 400 := by rw [<- bts_length, str_add, List.length_append, bts_length, bts_length]; omega
     have HALL : Hid _ := Lib.hid hall
     clear hcd hseen hbx hby hsc2 hs2 hall
     go_wp2
     go_quiet (fail)
     go_wp2
     go_roundw
     case rel => exact ⟨k + 1, sc2, x ++ y, true, by omega, by simp, rfl, rfl, rfl, HALL.out, hscl, hs3, b2.drewN _, below_drewN hB _⟩
     case measure => simp [intOf]; omega
   ·have d : ((c : Int) == 46) = false := beq_no hpt
    have hs2 := Lib.hid (hseen.out.next (.inr (by rw [hcd.out]; exact hpt)) (by rw [bts_length]; exact hlt))
    clear hcd hseen hpt
    go_wp2
    go_roundw
    case rel => exact ⟨k + 1, sc, al, q, by omega, by simp, rfl, rfl, rfl, hal, hsc, hs2, b2, hB⟩
    case measure => simp [intOf]; omega
  ·obtain rfl : k = t.size := by omega
   obtain ⟨x, hxe, hxl⟩ : ∃ x : ByteArray, x = (if q then al else t) /\ x.size <= 400 := ⟨_, rfl, by cases q <;> simp <;> omega⟩
   have hx : Hid (bts x = allL (bts t) /\ sc = (Dc.part (bts t)).length) := Lib.hid (by
    have h := hseen.out
    rw [<- bts_length] at h
    cases q with
    | true => rw [hxe]; exact h.done
    | false => rw [hxe]; exact h.none)
   cases q with
   | true =>
    obtain rfl : al = x := hxe.symm
    clear hseen hxe hlt hk
    cases ho : onlyL (allL (bts t)) with
    | false =>
     have CD := Lib.hid (rdigits_r al (by omega) false (by rw [onlyB_L, hx.out.1, ho]))
     have HR := Lib.hid (readR_no hu.out ho)
     clear ho
     go_wp2_with (first
      | (go_at_call 74; refine (CD.out _).mono ?_; rintro e w4 ⟨rfl, rfl⟩)
      | (refine wl_storeA b2 rfl _ _ rfl rfl rfl (by kernel_rfl) rfl rfl rfl (fun W8 b8 hg => ?_); have hB8 := below_far hB hB.size (Nat.le_refl _) hg; clear hg))
     exact bodyPost_ret (res_cell_tmp rfl b8 (by kernel_rfl) rfl rfl) rfl ⟨by rw [HR.out]; rfl, hB8⟩
    | true =>
     have CD := Lib.hid (rdigits_r al (by omega) true (by rw [onlyB_L, hx.out.1, ho]))
     obtain ⟨r, hr⟩ : ∃ r, readR (bts s) = r := ⟨_, rfl⟩
     have CM := Lib.hid (rmade_is false al sc (by omega) (by omega) (onlyL_digs (by rw [hx.out.1]; exact ho)) r (by rw [<- hr, readR_yes hu.out ho, <- hx.out.2, <- congrArg Dc.val hx.out.1]))
     have HR : Hid _ := Lib.hid hr
     clear ho hr
     go_wp2_with (first
      | (go_at_call 74; refine (CD.out _).mono ?_; rintro e w4 ⟨rfl, rfl⟩)
      | (go_at_call 98; refine (CM.out _).mono ?_; rintro e w5 ⟨rfl, hb⟩; replace hB := below_step hB hb; replace b2 := b2.keep hb; clear hb)
      | (refine wl_storeA b2 rfl _ _ rfl rfl rfl (by kernel_rfl) rfl rfl rfl (fun W8 b8 hg => ?_); have hB8 := below_far hB hB.size (Nat.le_refl _) hg; clear hg))
     exact bodyPost_ret (res_cell_tmp rfl b8 (by kernel_rfl) rfl rfl) rfl ⟨by rw [HR.out]; rfl, hB8⟩
   | false =>
    obtain rfl : t = x := hxe.symm
    clear hseen hxe hlt hk
    cases ho : onlyL (allL (bts t)) with
    | false =>
     have CD := Lib.hid (rdigits_r t (by omega) false (by rw [onlyB_L, hx.out.1, ho]))
     have HR := Lib.hid (readR_no hu.out ho)
     clear ho
     go_wp2_with (first
      | (go_at_call 74; refine (CD.out _).mono ?_; rintro e w4 ⟨rfl, rfl⟩)
      | (refine wl_storeA b2 rfl _ _ rfl rfl rfl (by kernel_rfl) rfl rfl rfl (fun W8 b8 hg => ?_); have hB8 := below_far hB hB.size (Nat.le_refl _) hg; clear hg))
     exact bodyPost_ret (res_cell_tmp rfl b8 (by kernel_rfl) rfl rfl) rfl ⟨by rw [HR.out]; rfl, hB8⟩
    | true =>
     have CD := Lib.hid (rdigits_r t (by omega) true (by rw [onlyB_L, hx.out.1, ho]))
     obtain ⟨r, hr⟩ : ∃ r, readR (bts s) = r := ⟨_, rfl⟩
     have CM := Lib.hid (rmade_is false t sc (by omega) (by omega) (onlyL_digs (by rw [hx.out.1]; exact ho)) r (by rw [<- hr, readR_yes hu.out ho, <- hx.out.2, <- congrArg Dc.val hx.out.1]))
     have HR : Hid _ := Lib.hid hr
     clear ho hr
     go_wp2_with (first
      | (go_at_call 74; refine (CD.out _).mono ?_; rintro e w4 ⟨rfl, rfl⟩)
      | (go_at_call 98; refine (CM.out _).mono ?_; rintro e w5 ⟨rfl, hb⟩; replace hB := below_step hB hb; replace b2 := b2.keep hb; clear hb)
      | (refine wl_storeA b2 rfl _ _ rfl rfl rfl (by kernel_rfl) rfl rfl rfl (fun W8 b8 hg => ?_); have hB8 := below_far hB hB.size (Nat.le_refl _) hg; clear hg))
     exact bodyPost_ret (res_cell_tmp rfl b8 (by kernel_rfl) rfl rfl) rfl ⟨by rw [HR.out]; rfl, hB8⟩
theorem rread_none (s : ByteArray) (hs : s.size <= 400) (he : s.size ≠ 0) (h1 : (bts s).head? ≠ some 45) (h2 : (bts s).head? ≠ some 43) (w : World) : Calls Tryz.prog 63 #[.string s] w fun e w' => e = (readR (bts s)).ret /\ Below w.heap.size w w' := by
 have hp : 0 < s.size := Nat.pos_of_ne_zero he
 have he1 := isEmpty_no hp
 have he2 : (!s.toList.isEmpty) = true := by rw [he1]; rfl
 obtain ⟨c0, hc0⟩ : ∃ c, (s[0]'hp).toNat = c := ⟨_, rfl⟩
 have hh : (bts s).head? = some c0 := by rw [List.head?_eq_getElem?, List.getElem?_eq_getElem (by rw [bts_length]; exact hp), bts_get s 0 hp, hc0]
 have e1 : ((c0 : Int) == 45) = false := beq_no (fun h => h1 (by rw [hh, h]))
 have e2 : ((c0 : Int) == 43) = false := beq_no (fun h => h2 (by rw [hh, h]))
 have hu : Hid (Dc.unsign (bts s) = (false, bts s)) := Lib.hid (unsign_none h1 h2)
 clear h1 h2 hh he
 go_enter Tryz.func63, Tryz.ntmps63
 go_wp2_with (first | (refine wl_allocA rfl zero_dec rfl (fun W2 b2 hb => ?_); have hB := hb; clear hb))
 go_loopw [5, 6, 7, 8] (fun v u p i wr => ∃ (k sc : Nat) (al : ByteArray) (q : Bool), k <= s.size /\ i = .int .i64 (k : Int) /\ v = .string al /\ u = .int .i64 (sc : Int) /\ p = .bool q /\ al.size <= 400 /\ sc <= 400 /\ Hid (Seen (bts s) k q (bts al) sc) /\ Blk wr w.heap.size 24 #[.bool false, .string ⟨#[]⟩, .int .i64 0] /\ Below w.heap.size w wr) (fun _ _ _ i _ => s.size - (intOf i).toNat)
 case atStart => exact ⟨0, 0, ⟨#[]⟩, false, Nat.zero_le _, rfl, rfl, rfl, rfl, by decide, by decide, Lib.hid (.inl ⟨rfl, Nat.zero_le _, rfl⟩), b2, hB⟩
 case round =>
  clear b2 hB
  obtain ⟨k, sc, al, q, hk, rfl, rfl, rfl, rfl, hal, hsc, hseen, b2, hB⟩ := hrel
  by_cases hlt : k < s.size
  ·obtain ⟨c, hc⟩ : ∃ c, (s[k]'hlt).toNat = c := ⟨_, rfl⟩
   have hcd : Hid ((bts s).getD k 0 = c) := Lib.hid (by rw [<- hc, byte_eq hlt]; rfl)
   by_cases hpt : c = 46
   ·subst hpt
    cases q with
    | true =>
     have hs2 := Lib.hid (hseen.out.next (.inl rfl) (by rw [bts_length]; exact hlt))
     clear hcd hseen
     go_wp2
     go_roundw
     case rel => exact ⟨k + 1, sc, al, true, by omega, by simp, rfl, rfl, rfl, hal, hsc, hs2, b2, hB⟩
     case measure => simp [intOf]; omega
    | false =>
     have hs2 := Lib.hid (hseen.out.found hcd.out (by rw [bts_length]; exact hlt))
     obtain ⟨x, hx⟩ : ∃ x, s.extract 0 k = x := ⟨_, rfl⟩
     obtain ⟨y, hy⟩ : ∃ y, s.extract (k + 1) s.size = y := ⟨_, rfl⟩
     have hbx : bts x = (bts s).take k := by rw [<- hx, bts_extract, List.drop_zero]
     have hby : bts y = (bts s).drop (k + 1) := by rw [<- hy, bts_from]
     have hxl : x.size <= k := by rw [<- bts_length, hbx, List.length_take]; omega
     have hyl : y.size <= 400 - k := by rw [<- bts_length, hby, List.length_drop, bts_length]; omega
     obtain ⟨sc2, hsc2⟩ : ∃ sc2, s.size - k - 1 = sc2 := ⟨_, rfl⟩
     have hse : (s.size : Int) - (k : Int) - 1 = (sc2 : Int) := by omega
     have hscl : sc2 <= 400 := by omega
     have hs3 : Hid (Seen (bts s) (k + 1) true (bts (x ++ y)) sc2) := Lib.hid (by rw [str_add, hbx, hby, <- hsc2, <- bts_length s]; exact hs2.out)
     have k0 : (0 : Int) <= (k : Int) := by omega
     have k1 : (k : Int) <= (s.size : Int) := by omega
     have k2 : (k : Int) + 1 <= (s.size : Int) := by omega
     have hall : (x ++ y).size <= 400 := by rw [<- bts_length, str_add, List.length_append, bts_length, bts_length]; omega
     have HALL : Hid _ := Lib.hid hall
     clear hcd hseen hbx hby hsc2 hs2 hall
     go_wp2
     go_quiet (fail)
     go_wp2
     go_roundw
     case rel => exact ⟨k + 1, sc2, x ++ y, true, by omega, by simp, rfl, rfl, rfl, HALL.out, hscl, hs3, b2.drewN _, below_drewN hB _⟩
     case measure => simp [intOf]; omega
   ·have d : ((c : Int) == 46) = false := beq_no hpt
    have hs2 := Lib.hid (hseen.out.next (.inr (by rw [hcd.out]; exact hpt)) (by rw [bts_length]; exact hlt))
    clear hcd hseen hpt
    go_wp2
    go_roundw
    case rel => exact ⟨k + 1, sc, al, q, by omega, by simp, rfl, rfl, rfl, hal, hsc, hs2, b2, hB⟩
    case measure => simp [intOf]; omega
  ·obtain rfl : k = s.size := by omega
   obtain ⟨x, hxe, hxl⟩ : ∃ x : ByteArray, x = (if q then al else s) /\ x.size <= 400 := ⟨_, rfl, by cases q <;> simp <;> omega⟩
   have hx : Hid (bts x = allL (bts s) /\ sc = (Dc.part (bts s)).length) := Lib.hid (by
    have h := hseen.out
    rw [<- bts_length] at h
    cases q with
    | true => rw [hxe]; exact h.done
    | false => rw [hxe]; exact h.none)
   cases q with
   | true =>
    obtain rfl : al = x := hxe.symm
    clear hseen hxe hlt hk
    cases ho : onlyL (allL (bts s)) with
    | false =>
     have CD := Lib.hid (rdigits_r al (by omega) false (by rw [onlyB_L, hx.out.1, ho]))
     have HR := Lib.hid (readR_no hu.out ho)
     clear ho
     go_wp2_with (first
      | (go_at_call 74; refine (CD.out _).mono ?_; rintro e w4 ⟨rfl, rfl⟩)
      | (refine wl_storeA b2 rfl _ _ rfl rfl rfl (by kernel_rfl) rfl rfl rfl (fun W8 b8 hg => ?_); have hB8 := below_far hB hB.size (Nat.le_refl _) hg; clear hg))
     exact bodyPost_ret (res_cell_tmp rfl b8 (by kernel_rfl) rfl rfl) rfl ⟨by rw [HR.out]; rfl, hB8⟩
    | true =>
     have CD := Lib.hid (rdigits_r al (by omega) true (by rw [onlyB_L, hx.out.1, ho]))
     obtain ⟨r, hr⟩ : ∃ r, readR (bts s) = r := ⟨_, rfl⟩
     have CM := Lib.hid (rmade_is false al sc (by omega) (by omega) (onlyL_digs (by rw [hx.out.1]; exact ho)) r (by rw [<- hr, readR_yes hu.out ho, <- hx.out.2, <- congrArg Dc.val hx.out.1]))
     have HR : Hid _ := Lib.hid hr
     clear ho hr
     go_wp2_with (first
      | (go_at_call 74; refine (CD.out _).mono ?_; rintro e w4 ⟨rfl, rfl⟩)
      | (go_at_call 98; refine (CM.out _).mono ?_; rintro e w5 ⟨rfl, hb⟩; replace hB := below_step hB hb; replace b2 := b2.keep hb; clear hb)
      | (refine wl_storeA b2 rfl _ _ rfl rfl rfl (by kernel_rfl) rfl rfl rfl (fun W8 b8 hg => ?_); have hB8 := below_far hB hB.size (Nat.le_refl _) hg; clear hg))
     exact bodyPost_ret (res_cell_tmp rfl b8 (by kernel_rfl) rfl rfl) rfl ⟨by rw [HR.out]; rfl, hB8⟩
   | false =>
    obtain rfl : s = x := hxe.symm
    clear hseen hxe hlt hk
    cases ho : onlyL (allL (bts s)) with
    | false =>
     have CD := Lib.hid (rdigits_r s (by omega) false (by rw [onlyB_L, hx.out.1, ho]))
     have HR := Lib.hid (readR_no hu.out ho)
     clear ho
     go_wp2_with (first
      | (go_at_call 74; refine (CD.out _).mono ?_; rintro e w4 ⟨rfl, rfl⟩)
      | (refine wl_storeA b2 rfl _ _ rfl rfl rfl (by kernel_rfl) rfl rfl rfl (fun W8 b8 hg => ?_); have hB8 := below_far hB hB.size (Nat.le_refl _) hg; clear hg))
     exact bodyPost_ret (res_cell_tmp rfl b8 (by kernel_rfl) rfl rfl) rfl ⟨by rw [HR.out]; rfl, hB8⟩
    | true =>
     have CD := Lib.hid (rdigits_r s (by omega) true (by rw [onlyB_L, hx.out.1, ho]))
     obtain ⟨r, hr⟩ : ∃ r, readR (bts s) = r := ⟨_, rfl⟩
     have CM := Lib.hid (rmade_is false s sc (by omega) (by omega) (onlyL_digs (by rw [hx.out.1]; exact ho)) r (by rw [<- hr, readR_yes hu.out ho, <- hx.out.2, <- congrArg Dc.val hx.out.1]))
     have HR : Hid _ := Lib.hid hr
     clear ho hr
     go_wp2_with (first
      | (go_at_call 74; refine (CD.out _).mono ?_; rintro e w4 ⟨rfl, rfl⟩)
      | (go_at_call 98; refine (CM.out _).mono ?_; rintro e w5 ⟨rfl, hb⟩; replace hB := below_step hB hb; replace b2 := b2.keep hb; clear hb)
      | (refine wl_storeA b2 rfl _ _ rfl rfl rfl (by kernel_rfl) rfl rfl rfl (fun W8 b8 hg => ?_); have hB8 := below_far hB hB.size (Nat.le_refl _) hg; clear hg))
     exact bodyPost_ret (res_cell_tmp rfl b8 (by kernel_rfl) rfl rfl) rfl ⟨by rw [HR.out]; rfl, hB8⟩
theorem rread_nil (s : ByteArray) (he : s.size = 0) (w : World) : Calls Tryz.prog 63 #[.string s] w fun e w' => e = (readR (bts s)).ret /\ Below w.heap.size w w' := by
 have he1 := isEmpty_yes he
 have he2 : (!s.toList.isEmpty) = false := by rw [he1]; rfl
 have hb0 : bts s = [] := List.length_eq_zero_iff.1 (by rw [bts_length]; exact he)
 have CD := Lib.hid (rdigits_r s (by omega) false (by rw [onlyB_L, hb0]; rfl))
 have HR : Hid (readR (bts s) = formR) := Lib.hid (by rw [hb0]; rfl)
 clear hb0
 go_enter Tryz.func63, Tryz.ntmps63
 go_wp2_with (first | (refine wl_allocA rfl zero_dec rfl (fun W2 b2 hb => ?_); have hB := hb; clear hb))
 refine wp_loop_rounds 1 ?_
 rw [rounds_succ]
 go_wp2_with (first
  | (go_at_call 74; refine (CD.out _).mono ?_; rintro e w4 ⟨rfl, rfl⟩)
  | (refine wl_storeA b2 rfl _ _ rfl rfl rfl (by kernel_rfl) rfl rfl rfl (fun W8 b8 hg => ?_); have hB8 := below_far hB hB.size (Nat.le_refl _) hg; clear hg))
 exact bodyPost_ret (res_cell_tmp rfl b8 (by kernel_rfl) rfl rfl) rfl ⟨by rw [HR.out]; rfl, hB8⟩
theorem rread_is (s : ByteArray) (hs : s.size <= 400) (r : Res) (hr : readR (bts s) = r) (w : World) : Calls Tryz.prog 63 #[.string s] w fun e w' => e = .returned (.tuple #[.agg #[.bool r.n, .string r.s, .int .i64 r.S], .int .i64 r.k]) /\ Below w.heap.size w w' := by
 subst hr
 by_cases he : s.size = 0
 ·exact rread_nil s he w
 ·by_cases h1 : (bts s).head? = some 45
  ·exact rread_minus s hs h1 w
  ·by_cases h2 : (bts s).head? = some 43
   ·exact rread_plus s hs h2 w
   ·exact rread_none s hs he h1 h2 w
end Go.Proofs.YthoojcdjjecogaaGreatDoor
