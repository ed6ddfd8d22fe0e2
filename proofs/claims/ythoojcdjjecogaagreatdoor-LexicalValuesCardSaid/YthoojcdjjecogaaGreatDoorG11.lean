/-
  Part 11 of the proof: what functions return, and plain facts (Pread Xlift Xnum Mlen Pofn Pcmpd Pdiv Rtext Ptext). Conditions: each theorem names its own.
-/
import Derived.Test.YthoojcdjjecogaaGreatDoorG10
import Derived.Test.YthoojcdjjecogaaGreatDoorRows
import Derived.ProofKit
import Derived.LaidMore
import Derived.OpenShut
import Derived.Stop.Joined
import Derived.Lay
import Derived.Deep.DeepHandedRow
import Derived.Deep.DeepWitnessRowRef
import Derived.Lib.LaidTab
import Derived.Shelf.Vars
import Derived.Carry
import Derived.ChangeMaps5
set_option maxRecDepth 1000000
set_option maxHeartbeats 16000000
namespace Go.Proofs.YthoojcdjjecogaaGreatDoor
open Go Go.RowKit

structure Good (w : World) : Prop where
 pow : Pow w
 mx : ∃ m : Int, w.cell? ⟨2, 0, none⟩ = some (.int .i64 m)
theorem Good.next {w w' : World} (h : Good w) (hb : Below w.heap.size w w') : Good w' := by
 refine ⟨h.pow.keep hb, ?_⟩
 obtain ⟨m, hm⟩ := h.mx
 have hlt := World.block_lt_of_cell? w _ hm
 exact ⟨m, (hb.cell (p := ⟨2, 0, none⟩) hlt).trans hm⟩
theorem prefix1 (l : List UInt8) (c : UInt8) : Lib.hasPrefix l [c] = decide ((l.map UInt8.toNat).head? = some c.toNat) := by
 cases l with
 | nil => rfl
 | cons b r =>
  unfold Lib.hasPrefix
  rw [Bool.eq_iff_iff]
  simp [List.isPrefixOf]
  constructor
  ·intro h; rw [h]
  ·intro h; exact (UInt8.toNat_inj.1 h).symm
theorem pref_any (s : ByteArray) (c : UInt8) (r : Bool) (h : decide ((bts s).head? = some c.toNat) = r) (w : World) : Calls Tryz.prog 122 #[.string s, .string ⟨#[c]⟩] w fun e w' => e = .returned (.bool r) /\ w = w' := by
 refine (Tryz.strings_HasPrefix s ⟨#[c]⟩ w).mono ?_
 rintro e w' ⟨rfl, hw⟩
 refine ⟨?_, hw.symm⟩
 have e1 : Lib.hasPrefix s.data.toList [c] = r := by rw [prefix1]; exact h
 rw [<- e1]
theorem cut_cons (b : UInt8) (l : List UInt8) (h : b ≠ 46) : (Lib.cut (b :: l) [46]).1 = b :: (Lib.cut l [46]).1 /\ (Lib.cut (b :: l) [46]).2.1 = (Lib.cut l [46]).2.1 := by
 have hp : ([46] : List UInt8).isPrefixOf (b :: l) = false := by simp [List.isPrefixOf]; exact fun e => h e.symm
 have hg := Lib.index_ge l [46]
 have hi0 : Lib.index (b :: l) [46] = if Lib.index l [46] == -1 then -1 else Lib.index l [46] + 1 := by rw [Lib.index, hp]; rfl
 unfold Lib.cut
 rw [hi0]
 by_cases hi : Lib.index l [46] = -1
 ·rw [hi]; exact ⟨rfl, rfl⟩
 ·obtain ⟨k, hk⟩ : ∃ k : Nat, Lib.index l [46] = k := ⟨(Lib.index l [46]).toNat, by omega⟩
  rw [hk]
  have e : ((k : Int) == -1) = false := beq_eq_false_iff_ne.2 (by omega)
  rw [e]
  simp only [Bool.false_eq_true, if_false]
  rw [if_pos (by omega), if_pos (by omega), show ((k : Int) + 1).toNat = k + 1 by omega, Int.toNat_natCast]
  exact ⟨rfl, rfl⟩
theorem cut_dot : ∀ l : List UInt8, (Lib.cut l [46]).1.map UInt8.toNat = Dc.whole (l.map UInt8.toNat) /\ (Lib.cut l [46]).2.1.map UInt8.toNat = Dc.part (l.map UInt8.toNat)
 | [] => ⟨rfl, rfl⟩
 | b :: l => by
  by_cases hb : b = 46
  ·subst hb
   have : Lib.index (46 :: l) [46] = 0 := by rw [Lib.index]; rfl
   unfold Lib.cut
   rw [this]
   exact ⟨rfl, rfl⟩
  ·obtain ⟨h1, h2⟩ := cut_cons b l hb
   obtain ⟨i1, i2⟩ := cut_dot l
   have hn : b.toNat ≠ 46 := fun e => hb (UInt8.toNat_inj.1 e)
   rw [h1, h2, List.map_cons, List.map_cons, i1, i2]
   unfold Dc.whole Dc.part
   rw [List.takeWhile_cons, List.dropWhile_cons, decide_eq_true hn]
   exact ⟨rfl, rfl⟩
theorem cut_any (s : ByteArray) (hs : s.size <= 1000000) (w : World) (hG : Good w) : Calls Tryz.prog 103 #[.string s, .string ⟨#[46]⟩] w fun e w' => (∃ (a b : ByteArray) (f : Bool), e = .returned (.tuple #[.string a, .string b, .bool f]) /\ bts a = Dc.whole (bts s) /\ bts b = Dc.part (bts s)) /\ Below w.heap.size w w' := by
 obtain ⟨m, hm⟩ := hG.mx
 refine (Tryz.strings_Cut s ⟨#[46]⟩ m w (by omega) hm).mono ?_
 rintro e w' ⟨rfl, n, rfl⟩
 have h := cut_dot s.data.toList
 exact ⟨⟨_, _, _, rfl, h.1, h.2⟩, below_drewN (Below.refl _ _) n⟩
theorem ponly_r (s : ByteArray) (hs : s.size <= 1000000) (r : Bool) (hr : onlyB s = r) (w : World) : Calls Tryz.prog 70 #[.string s] w fun e w' => e = .returned (.bool r) /\ w = w' := by
 rw [<- hr]; exact ponly_any s (by omega) w
theorem pread_minus_true (s : ByteArray) (hs : s.size <= 400) (h1 : (bts s).head? = some 45) (ho : ∀ m, Dc.unsign (bts s) = (true, m) -> onlyL (allL m) = true) (w : World) (hG : Good w) : Calls Tryz.prog 246 #[.string s] w fun e w' => e = (readR (bts s)).ret /\ Below w.heap.size w w' := by
 have hp := (head_byte h1).1
 have CP1 := Lib.hid (pref_any s 45 true (decide_eq_true h1))
 obtain ⟨t, ht⟩ : ∃ t, s.extract 1 s.size = t := ⟨_, rfl⟩
 have hu := Lib.hid (show Dc.unsign (bts s) = (true, bts t) by rw [<- ht]; exact unsign_minus h1)
 have htl : t.size <= 400 := by rw [<- bts_length, <- ht, bts_tail, List.length_tail, bts_length]; omega
 have k1 : (1 : Int) <= (s.size : Int) := by omega
 have ho' := Lib.hid (ho _ hu.out)
 have HG := Lib.hid hG
 obtain ⟨r, hr⟩ : ∃ r, readR (bts s) = r := ⟨_, rfl⟩
 have HR := Lib.hid hr
 have HC := Lib.hid (show resOf (Dc.can true (Dc.val (allL (bts t))) (Dc.part (bts t)).length) = r by rw [<- hr, readR_yes hu.out ho'.out])
 clear hr
 clear h1 ho hG
 go_enter Tryz.func246, Tryz.ntmps246
 go_wp2_with (first
  | (refine wl_allocA rfl zero_dec rfl (fun W2 b2 hb => ?_); have hB := hb; clear hb)
  | (go_at_call 122; refine (CP1.out _).mono ?_; rintro e w1 ⟨rfl, rfl⟩)
  | (go_at_call 103; refine (cut_any t (by omega) _ (HG.out.next hB)).mono ?_; rintro e W3 ⟨⟨a, b, f, rfl, ha, hb2⟩, hb⟩; replace hB := below_step hB hb; replace b2 := b2.keep hb; have hlen := Dc.whole_part_length (bts t); rw [List.length_append, <- ha, <- hb2, bts_length, bts_length, bts_length] at hlen; obtain ⟨u, hu2⟩ : ∃ u, a ++ b = u := ⟨_, rfl⟩; have HU := Lib.hid (show bts u = allL (bts t) by rw [<- hu2, str_add, ha, hb2]; rfl); have HBL := Lib.hid (show b.size = (Dc.part (bts t)).length by rw [<- bts_length, hb2]); have hul : u.size <= 400 := (by rw [<- hu2, <- bts_length, str_add, List.length_append, bts_length, bts_length]; omega); have hal : a.size <= 400 := (by omega); have hbl : b.size <= 400 := (by omega); clear hb ha hb2 hlen)
  | (go_at_call 70; refine (ponly_r u (by omega) true (by rw [onlyB_L, HU.out, ho'.out]) _).mono ?_; rintro e w4 ⟨rfl, rfl⟩)
  | (go_at_call 171; refine (pof_is true u b.size (by omega) (by omega) (by have h := ho'.out; unfold onlyL at h; rw [Bool.and_eq_true] at h; rw [HU.out]; exact h.1) r (by rw [HU.out, HBL.out]; exact HC.out) _).mono ?_; rintro e W5 ⟨rfl, hb⟩; replace hB := below_step hB hb; replace b2 := b2.keep hb; clear hb)
  | (refine wl_storeA b2 rfl _ _ rfl rfl rfl (by kernel_rfl) rfl rfl rfl (fun W8 b8 hg => ?_); have hB8 := below_far hB hB.size (Nat.le_refl _) hg; clear hg))
 exact bodyPost_ret (res_cell_tmp rfl b8 (by kernel_rfl) rfl rfl) rfl ⟨by rw [HR.out]; rfl, hB8⟩
theorem pread_minus_false (s : ByteArray) (hs : s.size <= 400) (h1 : (bts s).head? = some 45) (ho : ∀ m, Dc.unsign (bts s) = (true, m) -> onlyL (allL m) = false) (w : World) (hG : Good w) : Calls Tryz.prog 246 #[.string s] w fun e w' => e = (readR (bts s)).ret /\ Below w.heap.size w w' := by
 have hp := (head_byte h1).1
 have CP1 := Lib.hid (pref_any s 45 true (decide_eq_true h1))
 obtain ⟨t, ht⟩ : ∃ t, s.extract 1 s.size = t := ⟨_, rfl⟩
 have hu := Lib.hid (show Dc.unsign (bts s) = (true, bts t) by rw [<- ht]; exact unsign_minus h1)
 have htl : t.size <= 400 := by rw [<- bts_length, <- ht, bts_tail, List.length_tail, bts_length]; omega
 have k1 : (1 : Int) <= (s.size : Int) := by omega
 have ho' := Lib.hid (ho _ hu.out)
 have HG := Lib.hid hG
 have HR := Lib.hid (readR_no hu.out ho'.out)
 clear h1 ho hG
 go_enter Tryz.func246, Tryz.ntmps246
 go_wp2_with (first
  | (refine wl_allocA rfl zero_dec rfl (fun W2 b2 hb => ?_); have hB := hb; clear hb)
  | (go_at_call 122; refine (CP1.out _).mono ?_; rintro e w1 ⟨rfl, rfl⟩)
  | (go_at_call 103; refine (cut_any t (by omega) _ (HG.out.next hB)).mono ?_; rintro e W3 ⟨⟨a, b, f, rfl, ha, hb2⟩, hb⟩; replace hB := below_step hB hb; replace b2 := b2.keep hb; have hlen := Dc.whole_part_length (bts t); rw [List.length_append, <- ha, <- hb2, bts_length, bts_length, bts_length] at hlen; obtain ⟨u, hu2⟩ : ∃ u, a ++ b = u := ⟨_, rfl⟩; have HU := Lib.hid (show bts u = allL (bts t) by rw [<- hu2, str_add, ha, hb2]; rfl); have HBL := Lib.hid (show b.size = (Dc.part (bts t)).length by rw [<- bts_length, hb2]); have hul : u.size <= 400 := (by rw [<- hu2, <- bts_length, str_add, List.length_append, bts_length, bts_length]; omega); have hal : a.size <= 400 := (by omega); have hbl : b.size <= 400 := (by omega); clear hb ha hb2 hlen)
  | (go_at_call 70; refine (ponly_r u (by omega) false (by rw [onlyB_L, HU.out, ho'.out]) _).mono ?_; rintro e w4 ⟨rfl, rfl⟩)
  | (refine wl_storeA b2 rfl _ _ rfl rfl rfl (by kernel_rfl) rfl rfl rfl (fun W8 b8 hg => ?_); have hB8 := below_far hB hB.size (Nat.le_refl _) hg; clear hg))
 exact bodyPost_ret (res_cell_tmp rfl b8 (by kernel_rfl) rfl rfl) rfl ⟨by rw [HR.out]; rfl, hB8⟩
theorem pread_plus_true (s : ByteArray) (hs : s.size <= 400) (h1 : (bts s).head? = some 43) (ho : ∀ m, Dc.unsign (bts s) = (false, m) -> onlyL (allL m) = true) (w : World) (hG : Good w) : Calls Tryz.prog 246 #[.string s] w fun e w' => e = (readR (bts s)).ret /\ Below w.heap.size w w' := by
 have hp := (head_byte h1).1
 have CP1 := Lib.hid (pref_any s 45 false (by rw [h1]; rfl))
 have CP2 := Lib.hid (pref_any s 43 true (decide_eq_true h1))
 obtain ⟨t, ht⟩ : ∃ t, s.extract 1 s.size = t := ⟨_, rfl⟩
 have hu := Lib.hid (show Dc.unsign (bts s) = (false, bts t) by rw [<- ht]; exact unsign_plus h1)
 have htl : t.size <= 400 := by rw [<- bts_length, <- ht, bts_tail, List.length_tail, bts_length]; omega
 have k1 : (1 : Int) <= (s.size : Int) := by omega
 have ho' := Lib.hid (ho _ hu.out)
 have HG := Lib.hid hG
 obtain ⟨r, hr⟩ : ∃ r, readR (bts s) = r := ⟨_, rfl⟩
 have HR := Lib.hid hr
 have HC := Lib.hid (show resOf (Dc.can false (Dc.val (allL (bts t))) (Dc.part (bts t)).length) = r by rw [<- hr, readR_yes hu.out ho'.out])
 clear hr
 clear h1 ho hG
 have tok1 : True := trivial
 go_enter Tryz.func246, Tryz.ntmps246
 go_wp2_with (first
  | (refine wl_allocA rfl zero_dec rfl (fun W2 b2 hb => ?_); have hB := hb; clear hb)
  | (go_at_call 122; have _t := tok1; refine (CP1.out _).mono ?_; rintro e w1 ⟨rfl, rfl⟩; clear tok1 _t)
  | (go_at_call 122; refine (CP2.out _).mono ?_; rintro e w1 ⟨rfl, rfl⟩)
  | (go_at_call 103; refine (cut_any t (by omega) _ (HG.out.next hB)).mono ?_; rintro e W3 ⟨⟨a, b, f, rfl, ha, hb2⟩, hb⟩; replace hB := below_step hB hb; replace b2 := b2.keep hb; have hlen := Dc.whole_part_length (bts t); rw [List.length_append, <- ha, <- hb2, bts_length, bts_length, bts_length] at hlen; obtain ⟨u, hu2⟩ : ∃ u, a ++ b = u := ⟨_, rfl⟩; have HU := Lib.hid (show bts u = allL (bts t) by rw [<- hu2, str_add, ha, hb2]; rfl); have HBL := Lib.hid (show b.size = (Dc.part (bts t)).length by rw [<- bts_length, hb2]); have hul : u.size <= 400 := (by rw [<- hu2, <- bts_length, str_add, List.length_append, bts_length, bts_length]; omega); have hal : a.size <= 400 := (by omega); have hbl : b.size <= 400 := (by omega); clear hb ha hb2 hlen)
  | (go_at_call 70; refine (ponly_r u (by omega) true (by rw [onlyB_L, HU.out, ho'.out]) _).mono ?_; rintro e w4 ⟨rfl, rfl⟩)
  | (go_at_call 171; refine (pof_is false u b.size (by omega) (by omega) (by have h := ho'.out; unfold onlyL at h; rw [Bool.and_eq_true] at h; rw [HU.out]; exact h.1) r (by rw [HU.out, HBL.out]; exact HC.out) _).mono ?_; rintro e W5 ⟨rfl, hb⟩; replace hB := below_step hB hb; replace b2 := b2.keep hb; clear hb)
  | (refine wl_storeA b2 rfl _ _ rfl rfl rfl (by kernel_rfl) rfl rfl rfl (fun W8 b8 hg => ?_); have hB8 := below_far hB hB.size (Nat.le_refl _) hg; clear hg))
 exact bodyPost_ret (res_cell_tmp rfl b8 (by kernel_rfl) rfl rfl) rfl ⟨by rw [HR.out]; rfl, hB8⟩
theorem pread_plus_false (s : ByteArray) (hs : s.size <= 400) (h1 : (bts s).head? = some 43) (ho : ∀ m, Dc.unsign (bts s) = (false, m) -> onlyL (allL m) = false) (w : World) (hG : Good w) : Calls Tryz.prog 246 #[.string s] w fun e w' => e = (readR (bts s)).ret /\ Below w.heap.size w w' := by
 have hp := (head_byte h1).1
 have CP1 := Lib.hid (pref_any s 45 false (by rw [h1]; rfl))
 have CP2 := Lib.hid (pref_any s 43 true (decide_eq_true h1))
 obtain ⟨t, ht⟩ : ∃ t, s.extract 1 s.size = t := ⟨_, rfl⟩
 have hu := Lib.hid (show Dc.unsign (bts s) = (false, bts t) by rw [<- ht]; exact unsign_plus h1)
 have htl : t.size <= 400 := by rw [<- bts_length, <- ht, bts_tail, List.length_tail, bts_length]; omega
 have k1 : (1 : Int) <= (s.size : Int) := by omega
 have ho' := Lib.hid (ho _ hu.out)
 have HG := Lib.hid hG
 have HR := Lib.hid (readR_no hu.out ho'.out)
 clear h1 ho hG
 have tok1 : True := trivial
 go_enter Tryz.func246, Tryz.ntmps246
 go_wp2_with (first
  | (refine wl_allocA rfl zero_dec rfl (fun W2 b2 hb => ?_); have hB := hb; clear hb)
  | (go_at_call 122; have _t := tok1; refine (CP1.out _).mono ?_; rintro e w1 ⟨rfl, rfl⟩; clear tok1 _t)
  | (go_at_call 122; refine (CP2.out _).mono ?_; rintro e w1 ⟨rfl, rfl⟩)
  | (go_at_call 103; refine (cut_any t (by omega) _ (HG.out.next hB)).mono ?_; rintro e W3 ⟨⟨a, b, f, rfl, ha, hb2⟩, hb⟩; replace hB := below_step hB hb; replace b2 := b2.keep hb; have hlen := Dc.whole_part_length (bts t); rw [List.length_append, <- ha, <- hb2, bts_length, bts_length, bts_length] at hlen; obtain ⟨u, hu2⟩ : ∃ u, a ++ b = u := ⟨_, rfl⟩; have HU := Lib.hid (show bts u = allL (bts t) by rw [<- hu2, str_add, ha, hb2]; rfl); have HBL := Lib.hid (show b.size = (Dc.part (bts t)).length by rw [<- bts_length, hb2]); have hul : u.size <= 400 := (by rw [<- hu2, <- bts_length, str_add, List.length_append, bts_length, bts_length]; omega); have hal : a.size <= 400 := (by omega); have hbl : b.size <= 400 := (by omega); clear hb ha hb2 hlen)
  | (go_at_call 70; refine (ponly_r u (by omega) false (by rw [onlyB_L, HU.out, ho'.out]) _).mono ?_; rintro e w4 ⟨rfl, rfl⟩)
  | (refine wl_storeA b2 rfl _ _ rfl rfl rfl (by kernel_rfl) rfl rfl rfl (fun W8 b8 hg => ?_); have hB8 := below_far hB hB.size (Nat.le_refl _) hg; clear hg))
 exact bodyPost_ret (res_cell_tmp rfl b8 (by kernel_rfl) rfl rfl) rfl ⟨by rw [HR.out]; rfl, hB8⟩
theorem pread_none_true (s : ByteArray) (hs : s.size <= 400) (h1 : (bts s).head? ≠ some 45) (h2 : (bts s).head? ≠ some 43) (ho : ∀ m, Dc.unsign (bts s) = (false, m) -> onlyL (allL m) = true) (w : World) (hG : Good w) : Calls Tryz.prog 246 #[.string s] w fun e w' => e = (readR (bts s)).ret /\ Below w.heap.size w w' := by
 have CP1 := Lib.hid (pref_any s 45 false (decide_eq_false h1))
 have CP2 := Lib.hid (pref_any s 43 false (decide_eq_false h2))
 have hu := Lib.hid (unsign_none h1 h2)
 have ho' := Lib.hid (ho _ hu.out)
 have HG := Lib.hid hG
 obtain ⟨r, hr⟩ : ∃ r, readR (bts s) = r := ⟨_, rfl⟩
 have HR := Lib.hid hr
 have HC := Lib.hid (show resOf (Dc.can false (Dc.val (allL (bts s))) (Dc.part (bts s)).length) = r by rw [<- hr, readR_yes hu.out ho'.out])
 clear hr
 clear h1 h2 ho hG
 have tok1 : True := trivial
 go_enter Tryz.func246, Tryz.ntmps246
 go_wp2_with (first
  | (refine wl_allocA rfl zero_dec rfl (fun W2 b2 hb => ?_); have hB := hb; clear hb)
  | (go_at_call 122; have _t := tok1; refine (CP1.out _).mono ?_; rintro e w1 ⟨rfl, rfl⟩; clear tok1 _t)
  | (go_at_call 122; refine (CP2.out _).mono ?_; rintro e w1 ⟨rfl, rfl⟩)
  | (go_at_call 103; refine (cut_any s (by omega) _ (HG.out.next hB)).mono ?_; rintro e W3 ⟨⟨a, b, f, rfl, ha, hb2⟩, hb⟩; replace hB := below_step hB hb; replace b2 := b2.keep hb; have hlen := Dc.whole_part_length (bts s); rw [List.length_append, <- ha, <- hb2, bts_length, bts_length, bts_length] at hlen; obtain ⟨u, hu2⟩ : ∃ u, a ++ b = u := ⟨_, rfl⟩; have HU := Lib.hid (show bts u = allL (bts s) by rw [<- hu2, str_add, ha, hb2]; rfl); have HBL := Lib.hid (show b.size = (Dc.part (bts s)).length by rw [<- bts_length, hb2]); have hul : u.size <= 400 := (by rw [<- hu2, <- bts_length, str_add, List.length_append, bts_length, bts_length]; omega); have hal : a.size <= 400 := (by omega); have hbl : b.size <= 400 := (by omega); clear hb ha hb2 hlen)
  | (go_at_call 70; refine (ponly_r u (by omega) true (by rw [onlyB_L, HU.out, ho'.out]) _).mono ?_; rintro e w4 ⟨rfl, rfl⟩)
  | (go_at_call 171; refine (pof_is false u b.size (by omega) (by omega) (by have h := ho'.out; unfold onlyL at h; rw [Bool.and_eq_true] at h; rw [HU.out]; exact h.1) r (by rw [HU.out, HBL.out]; exact HC.out) _).mono ?_; rintro e W5 ⟨rfl, hb⟩; replace hB := below_step hB hb; replace b2 := b2.keep hb; clear hb)
  | (refine wl_storeA b2 rfl _ _ rfl rfl rfl (by kernel_rfl) rfl rfl rfl (fun W8 b8 hg => ?_); have hB8 := below_far hB hB.size (Nat.le_refl _) hg; clear hg))
 exact bodyPost_ret (res_cell_tmp rfl b8 (by kernel_rfl) rfl rfl) rfl ⟨by rw [HR.out]; rfl, hB8⟩
theorem pread_none_false (s : ByteArray) (hs : s.size <= 400) (h1 : (bts s).head? ≠ some 45) (h2 : (bts s).head? ≠ some 43) (ho : ∀ m, Dc.unsign (bts s) = (false, m) -> onlyL (allL m) = false) (w : World) (hG : Good w) : Calls Tryz.prog 246 #[.string s] w fun e w' => e = (readR (bts s)).ret /\ Below w.heap.size w w' := by
 have CP1 := Lib.hid (pref_any s 45 false (decide_eq_false h1))
 have CP2 := Lib.hid (pref_any s 43 false (decide_eq_false h2))
 have hu := Lib.hid (unsign_none h1 h2)
 have ho' := Lib.hid (ho _ hu.out)
 have HG := Lib.hid hG
 have HR := Lib.hid (readR_no hu.out ho'.out)
 clear h1 h2 ho hG
 have tok1 : True := trivial
 go_enter Tryz.func246, Tryz.ntmps246
 go_wp2_with (first
  | (refine wl_allocA rfl zero_dec rfl (fun W2 b2 hb => ?_); have hB := hb; clear hb)
  | (go_at_call 122; have _t := tok1; refine (CP1.out _).mono ?_; rintro e w1 ⟨rfl, rfl⟩; clear tok1 _t)
  | (go_at_call 122; refine (CP2.out _).mono ?_; rintro e w1 ⟨rfl, rfl⟩)
  | (go_at_call 103; refine (cut_any s (by omega) _ (HG.out.next hB)).mono ?_; rintro e W3 ⟨⟨a, b, f, rfl, ha, hb2⟩, hb⟩; replace hB := below_step hB hb; replace b2 := b2.keep hb; have hlen := Dc.whole_part_length (bts s); rw [List.length_append, <- ha, <- hb2, bts_length, bts_length, bts_length] at hlen; obtain ⟨u, hu2⟩ : ∃ u, a ++ b = u := ⟨_, rfl⟩; have HU := Lib.hid (show bts u = allL (bts s) by rw [<- hu2, str_add, ha, hb2]; rfl); have HBL := Lib.hid (show b.size = (Dc.part (bts s)).length by rw [<- bts_length, hb2]); have hul : u.size <= 400 := (by rw [<- hu2, <- bts_length, str_add, List.length_append, bts_length, bts_length]; omega); have hal : a.size <= 400 := (by omega); have hbl : b.size <= 400 := (by omega); clear hb ha hb2 hlen)
  | (go_at_call 70; refine (ponly_r u (by omega) false (by rw [onlyB_L, HU.out, ho'.out]) _).mono ?_; rintro e w4 ⟨rfl, rfl⟩)
  | (refine wl_storeA b2 rfl _ _ rfl rfl rfl (by kernel_rfl) rfl rfl rfl (fun W8 b8 hg => ?_); have hB8 := below_far hB hB.size (Nat.le_refl _) hg; clear hg))
 exact bodyPost_ret (res_cell_tmp rfl b8 (by kernel_rfl) rfl rfl) rfl ⟨by rw [HR.out]; rfl, hB8⟩
theorem pread_is (s : ByteArray) (hs : s.size <= 400) (r : Res) (hr : readR (bts s) = r) (w : World) (hG : Good w) : Calls Tryz.prog 246 #[.string s] w fun e w' => e = .returned (.tuple #[.agg #[.bool r.n, .string r.s, .int .i64 r.S], .int .i64 r.k]) /\ Below w.heap.size w w' := by
 subst hr
 by_cases h1 : (bts s).head? = some 45
 ·cases ho : onlyL (allL (bts (s.extract 1 s.size))) with
  | true => exact pread_minus_true s hs h1 (fun m hm => by rw [unsign_minus h1] at hm; cases hm; exact ho) w hG
  | false => exact pread_minus_false s hs h1 (fun m hm => by rw [unsign_minus h1] at hm; cases hm; exact ho) w hG
 ·by_cases h2 : (bts s).head? = some 43
  ·cases ho : onlyL (allL (bts (s.extract 1 s.size))) with
   | true => exact pread_plus_true s hs h2 (fun m hm => by rw [unsign_plus h2] at hm; cases hm; exact ho) w hG
   | false => exact pread_plus_false s hs h2 (fun m hm => by rw [unsign_plus h2] at hm; cases hm; exact ho) w hG
  ·cases ho : onlyL (allL (bts s)) with
   | true => exact pread_none_true s hs h1 h2 (fun m hm => by rw [unsign_none h1 h2] at hm; cases hm; exact ho) w hG
   | false => exact pread_none_false s hs h1 h2 (fun m hm => by rw [unsign_none h1 h2] at hm; cases hm; exact ho) w hG
theorem Vars.good {m : Int} {w : World} (h : Vars m w) : Good w := by
 obtain ⟨lo, hi, h0, _⟩ := h.row0
 exact ⟨h.pow, m, by simp [World.cell?, h0]⟩
end Go.Proofs.YthoojcdjjecogaaGreatDoor
namespace Go.Proofs.YthoojcdjjecogaaGreatDoor
open Go.ChangeShapes Go.WideShapes Go.ChangeAt Go.ChangeMaps Go.RowKit

theorem ownN : ownKnob Tryz.prog.godebug = none := by kernel_rfl
theorem gPow : Tryz.prog.globalNamed "internal/strconv.uint64pow10" = some 5 := by kernel_rfl
theorem tPow : (Tryz.prog.globals[5]?).map (·.type) = some 200 := by kernel_rfl

theorem gRng : Tryz.prog.globalNamed "gabarit/chars.ranges" = some 1 := by kernel_rfl
theorem tRng : (Tryz.prog.globals[1]?).map (·.type) = some 165 := by kernel_rfl
theorem gLen : Tryz.prog.globalNamed "gabarit/moment.lengths" = some 0 := by kernel_rfl
theorem tLen : (Tryz.prog.globals[0]?).map (·.type) = some 144 := by kernel_rfl

noncomputable def laidWorld (os : Os) : World := (World.doorLaid Tryz.prog 88 os).layVars Tryz.prog [("unicode/utf8.first", Rows.laid_unicode_utf8_first)]

theorem laid_met (os : Os) (args : Array Value) : laidMet Tryz.prog Rows.lexicalLawsRow.laid ((laidWorld os).forCall (fun _ _ => 0) ⟨#[], args, []⟩).memory :=
 laidMet_layVars (w0 := World.doorLaid Tryz.prog 88 os) ["unicode/utf8.first"] ((List.range (World.doorLaid Tryz.prog 88 os).heap.size).filter fun i => i != 3) (by kernel_rfl) (by kernel_rfl) (by kernel_rfl)
  (LaidIn.of_run _ 8 (by kernel_rfl) (by kernel_rfl) (by kernel_rfl) (by kernel_rfl))

theorem good_of_laid {W : World} (h : laidMetH Tryz.prog Rows.lexicalLawsRow.laid W) (hsh : W.ShapedOpen Tryz.prog) : Good W := by
 rw [MakeChecks.laidMetH_plain _ _ _ (by kernel_rfl)] at h
 obtain ⟨ps, hl, _, _⟩ := h
 obtain ⟨_, _, _, _, _, _, _, _, _, _, hl, _⟩ := hl
 obtain ⟨_, _, _, _, _, _, _, _, _, _, hl, _⟩ := hl
 obtain ⟨g2, t2, cs2, f2, p2, q2, hg2, ht2, hv2, hd2, hl, _⟩ := hl
 refine ⟨?_, ?_⟩
 ·obtain rfl := Option.some.inj (gPow.symm.trans hg2)
  obtain rfl := Option.some.inj (tPow.symm.trans ht2)
  unfold Pow Lib.TabIs
  rw [hv2, <- Lib.cells_of_tab (k := .u64) (zs := Lib.pow10Tab) Tryz.underlying200 Tryz.underlying158 (by kernel_rfl) (by kernel_rfl) hd2]
 ·exact cell_of_shapedOpen_int (zero := #[.int .i64 0]) (t := 3) hsh (of_decide_eq_true (by kernel_rfl)) (by kernel_rfl) rfl (by kernel_rfl) (by kernel_rfl) Tryz.underlying3

theorem lens_of_laid {W : World} (h : laidMetH Tryz.prog Rows.lexicalLawsRow.laid W) : W.var? Tryz.prog "gabarit/moment.lengths" = some monthLens.toArray := by
 rw [MakeChecks.laidMetH_plain _ _ _ (by kernel_rfl)] at h
 obtain ⟨ps, hl, _, _⟩ := h
 obtain ⟨_, _, _, _, _, _, _, _, _, _, hl, _⟩ := hl
 obtain ⟨_, _, _, _, _, _, _, _, _, _, hl, _⟩ := hl
 obtain ⟨_, _, _, _, _, _, _, _, _, _, hl, _⟩ := hl
 obtain ⟨_, _, _, _, _, _, _, _, _, _, hl, _⟩ := hl
 obtain ⟨_, _, _, _, _, _, _, _, _, _, hl, _⟩ := hl
 obtain ⟨_, _, _, _, _, _, _, _, _, _, hl, _⟩ := hl
 obtain ⟨_, _, _, _, _, _, _, _, _, _, hl, _⟩ := hl
 obtain ⟨g2, t2, cs2, f2, p2, q2, hg2, ht2, hv2, hd2, hl, _⟩ := hl
 obtain rfl := Option.some.inj (gLen.symm.trans hg2)
 obtain rfl := Option.some.inj (tLen.symm.trans ht2)
 unfold monthLens
 rw [hv2, <- Lib.cells_of_tab (k := .i64) (zs := [31, 28, 31, 30, 31, 30, 31, 31, 30, 31, 30, 31]) Tryz.underlying144 Tryz.underlying3 (by kernel_rfl) (by kernel_rfl) hd2]
theorem pair_cells {H : Type} {enc : TypeId × Value -> H} {w : World} {base : Nat} {sp : Nat -> Bool} {held : Bool} {fuel : Nat} {cs : List Value} {a b : Int} {x : DataW H × List MemPlace} (h : DataW.trod enc Tryz.prog w base sp held fuel 164 cs = some x) (hx : x.1 = .agg [.lit (.int .i32 a), .lit (.int .i32 b)]) : cs = [.int .i32 a, .int .i32 b] := by
 obtain ⟨y, p⟩ := x
 simp only at hx
 subst hx
 exact Lib.cells_of_tab (k := .i32) (zs := [a, b]) Tryz.underlying164 Tryz.underlying21 (by kernel_rfl) (by kernel_rfl) h
theorem rng_cells {H : Type} {enc : TypeId × Value -> H} {w : World} {base : Nat} {sp : Nat -> Bool} {held : Bool} {fuel : Nat} {cs : List Value} {p : List MemPlace} (h : DataW.trod enc Tryz.prog w base sp held fuel 165 cs = some (Rows.laid_gabarit_chars_ranges, p)) : cs = rngVals := by
 have c1 : Tryz.prog.cellsOf 165 = 12 := by kernel_rfl
 have c2 : Tryz.prog.cellsOf 164 = 2 := by kernel_rfl
 obtain ⟨xs, m, _, ex, hlen, hl, hel⟩ := DataW.trod_array Tryz.underlying165 h
 rw [c1] at hlen
 match cs, hlen with
 | [a0, a1, a2, a3, a4, a5, a6, a7, a8, a9, b0, b1], _ =>
  match xs, hl with
  | [x0, x1, x2, x3, x4, x5], _ =>
   have e3 := DataW.agg.inj (Prod.mk.inj ex).1
   simp only [List.map_cons, List.map_nil, List.cons.injEq, and_true] at e3
   obtain ⟨e0, e1, e2, e3, e4, e5⟩ := e3
   have k0 := hel 0 (by omega); have k1 := hel 1 (by omega); have k2 := hel 2 (by omega)
   have k3 := hel 3 (by omega); have k4 := hel 4 (by omega); have k5 := hel 5 (by omega)
   rw [c2] at k0 k1 k2 k3 k4 k5
   have f0 := pair_cells k0 e0.symm
   have f1 := pair_cells k1 e1.symm
   have f2 := pair_cells k2 e2.symm
   have f3 := pair_cells k3 e3.symm
   have f4 := pair_cells k4 e4.symm
   have f5 := pair_cells k5 e5.symm
   simp only [Nat.reduceMul, List.drop_zero, List.drop_succ_cons, List.take_succ_cons, List.take_zero, List.cons.injEq, and_true] at f0 f1 f2 f3 f4 f5
   obtain ⟨rfl, rfl⟩ := f0
   obtain ⟨rfl, rfl⟩ := f1
   obtain ⟨rfl, rfl⟩ := f2
   obtain ⟨rfl, rfl⟩ := f3
   obtain ⟨rfl, rfl⟩ := f4
   obtain ⟨rfl, rfl⟩ := f5
   rfl
theorem rng_of_laid {W : World} (h : laidMetH Tryz.prog Rows.lexicalLawsRow.laid W) : W.var? Tryz.prog "gabarit/chars.ranges" = some rngVals.toArray := by
 rw [MakeChecks.laidMetH_plain _ _ _ (by kernel_rfl)] at h
 obtain ⟨ps, hl, _, _⟩ := h
 obtain ⟨_, _, _, _, _, _, _, _, _, _, hl, _⟩ := hl
 obtain ⟨_, _, _, _, _, _, _, _, _, _, hl, _⟩ := hl
 obtain ⟨_, _, _, _, _, _, _, _, _, _, hl, _⟩ := hl
 obtain ⟨_, _, _, _, _, _, _, _, _, _, hl, _⟩ := hl
 obtain ⟨_, _, _, _, _, _, _, _, _, _, hl, _⟩ := hl
 obtain ⟨_, _, _, _, _, _, _, _, _, _, hl, _⟩ := hl
 obtain ⟨g2, t2, cs2, f2, p2, q2, hg2, ht2, hv2, hd2, hl, _⟩ := hl
 obtain rfl := Option.some.inj (gRng.symm.trans hg2)
 obtain rfl := Option.some.inj (tRng.symm.trans ht2)
 rw [hv2, <- rng_cells hd2]
theorem vars_of_laid {W : World} (h : laidMetH Tryz.prog Rows.lexicalLawsRow.laid W) (hsh : W.ShapedOpen Tryz.prog) : ∃ M, Vars M W := by
 have hG := good_of_laid h hsh
 have hl := lens_of_laid h
 have hr := rng_of_laid h
 obtain ⟨m, hm⟩ := hG.mx
 have hp := hG.pow
 refine ⟨m, ?_, ?_, ?_, ?_⟩
 ·obtain ⟨cs, hw, hz, _⟩ := hsh.1 2 #[.int .i64 0] 3 (of_decide_eq_true (by kernel_rfl)) (by kernel_rfl)
  refine ⟨0, 0, ?_, .inl (Nat.le_refl _)⟩
  rw [hw]
  unfold World.cell? at hm
  rw [hw] at hm
  obtain ⟨l⟩ := cs
  match l, hz, hm with
  | [x], _, hm =>
   simp at hm
   rw [hm]
 ·obtain ⟨cs, hw, _, _⟩ := hsh.1 5 (Array.replicate 20 (.int .u64 0)) 200 (of_decide_eq_true (by kernel_rfl)) (by kernel_rfl)
  refine ⟨0, 0, ?_, .inl (Nat.le_refl _)⟩
  unfold Pow Lib.TabIs World.var? at hp
  rw [gPow, Option.bind_some, hw] at hp
  rw [hw]
  simp only [Option.some.injEq] at hp
  rw [hp]
 ·obtain ⟨cs, hw, _, _⟩ := hsh.1 0 (Array.replicate 12 (.int .i64 0)) 144 (of_decide_eq_true (by kernel_rfl)) (by kernel_rfl)
  refine ⟨0, 0, ?_, .inl (Nat.le_refl _)⟩
  unfold World.var? at hl
  rw [gLen, Option.bind_some, hw] at hl
  rw [hw]
  simp only [Option.some.injEq] at hl
  rw [hl]
 ·obtain ⟨cs, hw, _, _⟩ := hsh.1 1 (Array.replicate 12 (.int .i32 0)) 165 (of_decide_eq_true (by kernel_rfl)) (by kernel_rfl)
  refine ⟨0, 0, ?_, .inl (Nat.le_refl _)⟩
  unfold World.var? at hr
  rw [gRng, Option.bind_some, hw] at hr
  rw [hw]
  simp only [Option.some.injEq] at hr
  rw [hr]

section
variable {H : Type} {enc : TypeId × Value -> H} {P : Program}
theorem trodAll_below (hl : laidOutB P = true) {W W' : World} (hb : Below W.heap.size W W') : ∀ (ts : List TypeId) (vs : List Value) (ds : List (DataW H)) (ps : List MemPlace), (∀ t ∈ ts, P.readableRec t = true /\ t < P.types.size) ->
  DataW.TrodAll enc P W 0 (fun _ => true) true ts vs ds ps -> (∀ x ∈ ps, x.block < W.heap.size) -> DataW.TrodAll enc P W' 0 (fun b => decide (b < W.heap.size)) true ts vs ds ps
 | [], [], [], _, _, h, _ => h
 | [], [], _ :: _, _, _, h, _ => h.elim
 | [], _ :: _, _, _, _, h, _ => h.elim
 | _ :: _, [], _, _, _, h, _ => h.elim
 | _ :: _, _ :: _, [], _, _, h, _ => h.elim
 | t :: ts, v :: vs, d :: ds, ps, hr, h, hlt => by
  obtain ⟨p, q, h0, h1, rfl⟩ := h
  obtain ⟨r0, r1⟩ := hr t (List.mem_cons_self ..)
  exact ⟨p, q, Below.trod hl r0 r1 h0 hb (fun x hx => hlt x (by simp [hx])), trodAll_below hl hb ts vs ds q (fun u hu => hr u (List.mem_cons_of_mem _ hu)) h1 (fun x hx => hlt x (by simp [hx])), rfl⟩
theorem post_law (hl : laidOutB P = true) {f : Func} {s : ChangeSpec} {apart fresh handsOn : Bool} {W W' : World} {args : Array Value} {ds gs : List (DataW H)} {before : List MemPlace} {tb : TypeId}
  (hbool : P.underlying tb = some .bool) (hres : f.resultTypes = #[tb]) (hpar : ∀ t ∈ f.params.toList, P.readableRec t = true /\ t < P.types.size) (hvars : s.vars = [])
  (hfn : s.fn H ds = { results := [.lit (.bool true)], args := ds }) (hW : DataW.Whole enc P f.params.toList s.vars apart W args.toList ds gs before) (hb : Below W.heap.size W W') :
  s.post enc P f apart fresh handsOn false W args (.bool true) W' := by
 have hlt : ∀ x ∈ before, x.block < W.heap.size := fun x hx => hW.lt x hx
 have hW' := hW
 obtain ⟨p, q, hA, hV, rfl, _, _⟩ := hW
 rw [hvars] at hV
 have hgs : gs = [] /\ q = [] := by
  cases gs with
  | nil => exact ⟨rfl, hV⟩
  | cons _ _ => exact hV.elim
 obtain ⟨rfl, rfl⟩ := hgs
 refine ⟨ds, [], p ++ [], [], p, [], hW', ?_, ?_, ?_, hb.frame _, fun h => by cases h⟩
 ·rw [List.append_nil, hfn, hres]
  exact trodAll_mk1 (shut_bool hbool _)
 ·rw [List.append_nil, hfn]
  exact trodAll_below hl hb _ _ _ _ hpar hA (fun x hx => hlt x (by simp [hx]))
 ·rw [List.append_nil, hfn, hvars]
  rfl
end
set_option maxRecDepth 100000
theorem decCells : Tryz.prog.cellsOf 24 = 3 := by kernel_rfl
theorem boolCells : Tryz.prog.cellsOf 4 = 1 := by kernel_rfl
theorem strCellsN : Tryz.prog.cellsOf 9 = 1 := by kernel_rfl
theorem intCells : Tryz.prog.cellsOf 3 = 1 := by kernel_rfl
theorem momCells : Tryz.prog.cellsOf 26 = 11 := by kernel_rfl
end Go.Proofs.YthoojcdjjecogaaGreatDoor
namespace Go.Proofs.YthoojcdjjecogaaGreatDoor
open Go Go.RowKit
namespace Lx
def isZ (c : Nat) : Bool := decide (c = 48)
def backZ (l : List Nat) : List Nat := (l.reverse.dropWhile isZ).reverse
def frontZ (l : List Nat) : List Nat := l.dropWhile isZ
theorem all_isZ {l : List Nat} (h : ∀ c ∈ l, isZ c = true) : l = List.replicate l.length 48 := List.eq_replicate_iff.2 ⟨rfl, fun c hc => of_decide_eq_true (h c hc)⟩
theorem frontZ_eq (l : List Nat) : ∃ k, l = List.replicate k 48 ++ frontZ l := by
 refine ⟨(l.takeWhile isZ).length, ?_⟩
 rw [<- all_isZ (fun c hc => List.all_eq_true.1 List.all_takeWhile c hc)]
 exact (List.takeWhile_append_dropWhile).symm
theorem frontZ_head (l : List Nat) : (frontZ l).head? ≠ some 48 := by
 induction l with
 | nil => intro h; cases h
 | cons a l ih =>
  unfold frontZ at ih ⊢
  rw [List.dropWhile_cons]
  split
  ·exact ih
  ·rename_i h
   intro e
   exact h (by cases e; rfl)
theorem backZ_eq (l : List Nat) : ∃ k, l = backZ l ++ List.replicate k 48 := by
 obtain ⟨k, hk⟩ := frontZ_eq l.reverse
 refine ⟨k, ?_⟩
 have := congrArg List.reverse hk
 rw [List.reverse_reverse, List.reverse_append, List.reverse_replicate] at this
 exact this
theorem backZ_last (l : List Nat) : (backZ l).getLast? ≠ some 48 := by
 unfold backZ
 rw [List.getLast?_reverse]
 exact frontZ_head l.reverse
theorem dig_append {l m : List Nat} : (l ++ m).all Dc.dig = true ↔ l.all Dc.dig = true /\ m.all Dc.dig = true := by rw [List.all_append, Bool.and_eq_true]
theorem last_val {l : List Nat} (hd : l.all Dc.dig = true) (hne : l ≠ []) : l.getLast? = some (48 + Dc.val l % 10) := by
 obtain ⟨m, c, rfl⟩ : ∃ m c, l = m ++ [c] := ⟨l.dropLast, l.getLast hne, (List.dropLast_concat_getLast hne).symm⟩
 have hc := Dc.dig_iff.1 (List.all_eq_true.1 hd c (by simp))
 rw [Dc.val_snoc, List.getLast?_concat]
 congr 1
 omega
theorem okB_form (neg : Bool) (d : List Nat) (q : Nat) (hd : d.all Dc.dig = true) (hne : d ≠ []) (hh : d.head? ≠ some 48) (hl : q = 0 \/ d.getLast? ≠ some 48) : okB neg (str d) (q : Int) = (decide (d.length <= 60) && decide (q <= 60)) := by
 have hb : bts (str d) = d := bts_str d fun c hc => by have := Dc.dig_iff.1 (List.all_eq_true.1 hd c hc); omega
 have h48 : d ≠ [48] := fun e => hh (by rw [e]; rfl)
 have hlen : d.length ≠ 0 := fun e => hne (List.length_eq_zero_iff.1 e)
 unfold okB onlyB
 rw [hb, str_size, if_neg h48, hd, decide_eq_false hh, decide_eq_true hlen, decide_eq_true (Int.natCast_nonneg q)]
 have h2 : (decide ((q : Int) = 0) || !decide (d.getLast? = some 48)) = true := by
  rcases hl with h | h
  ·rw [h]; rfl
  ·rw [decide_eq_false h]; simp
 rw [h2, show decide ((q : Int) <= 60) = decide (q <= 60) by rw [decide_eq_decide]; omega]
 simp
theorem num_can (neg : Bool) (w p : List Nat) (hw : w.all Dc.dig = true) (hp : p.all Dc.dig = true) : resOf (Dc.can neg (Dc.val (w ++ p)) p.length) =
  if frontZ (w ++ backZ p) = [] then ⟨false, str [48], 0, 0⟩ else if okB neg (str (frontZ (w ++ backZ p))) ((backZ p).length : Int) = true then ⟨neg, str (frontZ (w ++ backZ p)), ((backZ p).length : Int), 0⟩ else ⟨false, ⟨#[]⟩, 0, 7⟩ := by
 obtain ⟨n, hn⟩ := backZ_eq p
 have hl := backZ_last p
 obtain ⟨q, hq⟩ : ∃ q, backZ p = q := ⟨_, rfl⟩
 rw [hq] at hn hl ⊢
 subst hn
 obtain ⟨hqd, _⟩ := dig_append.1 hp
 obtain ⟨k, hk⟩ := frontZ_eq (w ++ q)
 have hh := frontZ_head (w ++ q)
 obtain ⟨d, hd⟩ : ∃ d, frontZ (w ++ q) = d := ⟨_, rfl⟩
 rw [hd] at hk hh ⊢
 have hv : Dc.val (w ++ q) = Dc.val d := by rw [hk, Dc.val_zeros_front]
 have hdd : d.all Dc.dig = true := (dig_append.1 (by rw [<- hk]; exact dig_append.2 ⟨hw, hqd⟩)).2
 have hc : Dc.can neg (Dc.val (w ++ (q ++ List.replicate n 48))) (q ++ List.replicate n 48).length = Dc.can neg (Dc.val d) q.length := by
  refine Dc.can_congr neg ?_
  rw [<- List.append_assoc, Dc.val_zeros_back, hv, List.length_append, List.length_replicate, Nat.mul_assoc, <- Nat.pow_add, Nat.add_comm n]
 rw [hc]
 by_cases h0 : d = []
 ·rw [if_pos h0, h0, Dc.val_nil]
  rfl
 ·have hu : Dc.digs (Dc.val d) = d := Dc.digs_unique hdd h0 (.inl hh)
  have hv0 : Dc.val d ≠ 0 := fun e => hh (by rw [<- hu, e]; rfl)
  have hlast : q.length = 0 \/ d.getLast? ≠ some 48 := by
   rcases List.eq_nil_or_concat q with rfl | ⟨m, c, rfl⟩
   ·exact .inl rfl
   ·right
    rcases List.eq_nil_or_concat d with rfl | ⟨m', c', rfl⟩
    ·exact absurd rfl h0
    ·simp only [List.concat_eq_append] at hk hl ⊢
     have e := congrArg List.getLast? hk
     rw [<- List.append_assoc, <- List.append_assoc, List.getLast?_concat, List.getLast?_concat] at e
     cases e
     rw [List.getLast?_concat] at hl ⊢
     exact hl
  have hs : Dc.strip (Dc.val d) q.length = (Dc.val d, q.length) := by
   refine Dc.strip_done (hlast.imp id fun h e => h ?_)
   rw [last_val hdd h0, e]
  rw [if_neg h0, okB_form neg d q.length hdd h0 hh hlast]
  unfold Dc.can
  rw [if_neg hv0, hs, hu]
  by_cases h1 : d.length <= 60
  ·by_cases h2 : q.length <= 60
   ·rw [if_neg (show ¬(60 < d.length \/ 60 < q.length) by omega), if_pos (by rw [decide_eq_true h1, decide_eq_true h2]; rfl)]
    simp only [resOf, hu]
   ·rw [if_pos (show 60 < d.length \/ 60 < q.length by omega), if_neg (by rw [decide_eq_false h2, Bool.and_false]; decide)]
    rfl
  ·rw [if_pos (show 60 < d.length \/ 60 < q.length by omega), if_neg (by rw [decide_eq_false h1, Bool.false_and]; decide)]
   rfl
end Lx
end Go.Proofs.YthoojcdjjecogaaGreatDoor
namespace Go.Proofs.YthoojcdjjecogaaGreatDoor
open Go Go.RowKit Go.Ex

def leapT (a b : V) : Tree := .node (.eq (.rem (.at 1) (.int 4)) (.int 0))
 (.node (.eq (.rem (.at 1) (.int 100)) (.int 0)) (.node (.eq (.rem (.at 1) (.int 400)) (.int 0)) (.leaf a) (.leaf b)) (.leaf a))
 (.node (.eq (.rem (.at 1) (.int 400)) (.int 0)) (.leaf a) (.leaf b))
theorem leap_at {E : Nat -> Value} {y : Int} {a b : V} (h : E 1 = .int .i64 y) : (leapT a b).at E = if Mo.lg y = 1 then a else b := by
 have e : ∀ n : Int, n ≠ 0 -> (y.tmod n = 0 ↔ y % n = 0) := fun n _ => by
  rw [<- Int.dvd_iff_tmod_eq_zero, <- Int.dvd_iff_emod_eq_zero]
 have e4 := e 4 (by decide)
 have e100 := e 100 (by decide)
 have e400 := e 400 (by decide)
 simp only [leapT, Tree.at, X.evB, X.evI, h, Mo.lg]
 by_cases h4 : y.tmod 4 = 0 <;> by_cases h100 : y.tmod 100 = 0 <;> by_cases h400 : y.tmod 400 = 0 <;> simp only [h4, h100, h400, decide_true, decide_false, cond_true, cond_false] <;> (split <;> first | rfl | (exfalso; omega))
def lenT (m : Int) : Tree := if m = 2 then leapT (it 29) (it 28) else .leaf (it (if m = 4 \/ m = 6 \/ m = 9 \/ m = 11 then 30 else 31))
theorem run_len : ([1, 2, 3, 4, 5, 6, 7, 8, 9, 10, 11, 12] : List Int).all (fun m => chk (runTr Tryz.prog nG (fun _ => none) gd moT [] 100 106 [xi 1, it m] h0) (lenT m) []) = true := by decide +kernel
theorem run_rlen : ([1, 2, 3, 4, 5, 6, 7, 8, 9, 10, 11, 12] : List Int).all (fun m => chk (runTr Tryz.prog nG (fun _ => none) gd moT [] 100 75 [xi 1, it m] h0) (lenT m) []) = true := by decide +kernel
theorem len_at {E : Nat -> Value} {y m : Int} (h : E 1 = .int .i64 y) (L : Ex.Loc) : ((lenT m).at E).den L E = .int .i64 (Mo.dim y m) := by
 have := Mo.lg_01 y
 unfold lenT Mo.dim
 by_cases h2 : m = 2
 ·rw [if_pos h2, if_pos h2, leap_at h]
  split
  ·rename_i e; rw [e]; rfl
  ·rw [show Mo.lg y = 0 by omega]; rfl
 ·rw [if_neg h2, if_neg h2]; rfl
theorem month_mem {m : Int} (h1 : 1 <= m) (h2 : m <= 12) : m ∈ ([1, 2, 3, 4, 5, 6, 7, 8, 9, 10, 11, 12] : List Int) := by
 simp only [List.mem_cons, List.not_mem_nil, or_false]; omega
theorem plength_is (y m : Int) (h1 : 1 <= m) (h2 : m <= 12) (w : World) (M : Int) (hV : Vars M w) : Calls Tryz.prog 106 #[.int .i64 y, .int .i64 m] w fun e w' => e = .returned (.int .i64 (Mo.dim y m)) /\ Below w.heap.size w w' := by
 have hr := List.all_eq_true.1 run_len m (month_mem h1 h2)
 have h := tree_run (env := [.int .i64 y]) hr trivial rfl trivial rfl hV
 rw [len_at rfl] at h
 exact h
theorem rlength_is (y m : Int) (h1 : 1 <= m) (h2 : m <= 12) (w : World) (M : Int) (hV : Vars M w) : Calls Tryz.prog 75 #[.int .i64 y, .int .i64 m] w fun e w' => e = .returned (.int .i64 (Mo.dim y m)) /\ Below w.heap.size w w' := by
 have hr := List.all_eq_true.1 run_rlen m (month_mem h1 h2)
 have h := tree_run (env := [.int .i64 y]) hr trivial rfl trivial rfl hV
 rw [len_at rfl] at h
 exact h
end Go.Proofs.YthoojcdjjecogaaGreatDoor
namespace Go.Proofs.YthoojcdjjecogaaGreatDoor
open Go Go.RowKit

theorem fint_any (n : Int) (h0 : -9223372036854775808 <= n) (h1 : n <= 9223372036854775807) (w : World) (hP : Pow w) : Calls Tryz.prog 127 #[.int .i64 n, .int .i64 10] w fun e w' => (∃ t : ByteArray, e = .returned (.string t) /\ t.data.toList = Lib.itoa n) /\ Below w.heap.size w w' := by
 refine (Tryz.strconv_FormatInt_10 n h0 h1 w hP).mono ?_
 rintro e w' ⟨rfl, k, os, rfl⟩
 exact ⟨⟨_, rfl, rfl⟩, Lib.below_grow _ _ (Nat.le_refl _) _ _⟩
theorem tpre_any (s : ByteArray) (l : List UInt8) (h : Lib.trimPrefix s.data.toList [45] = l) (w : World) : Calls Tryz.prog 128 #[.string s, .string ⟨#[45]⟩] w fun e w' => (∃ t : ByteArray, e = .returned (.string t) /\ t.data.toList = l) /\ w = w' :=
 (Tryz.strings_TrimPrefix s ⟨#[45]⟩ w).mono fun _ _ ⟨he, hw⟩ => ⟨⟨_, he, h⟩, hw.symm⟩
theorem dec_head (u : Nat) : ∀ r, Lib.decDigits u ≠ 45 :: r := fun r h => by
 have h1 := decDigits_digs u
 rw [h] at h1
 have := Dc.digs_dig u
 rw [<- h1] at this
 simp [Dc.dig] at this
theorem tpre_same (s : ByteArray) (h : ∀ r, s.data.toList ≠ 45 :: r) (w : World) : Calls Tryz.prog 128 #[.string s, .string ⟨#[45]⟩] w fun e w' => e = .returned (.string s) /\ w = w' := by
 refine (Tryz.strings_TrimPrefix s ⟨#[45]⟩ w).mono ?_
 rintro e w' ⟨rfl, hw⟩
 refine ⟨?_, hw.symm⟩
 have hp : Lib.hasPrefix s.data.toList [45] = false := by
  unfold Lib.hasPrefix
  cases hl : s.data.toList with
  | nil => rfl
  | cons c r =>
   have hc : (45 == c) = false := beq_eq_false_iff_ne.2 (fun e => h r (by rw [hl, e]))
   simp [List.isPrefixOf, hc]
 show Ending.returned (.string ⟨(Lib.trimPrefix s.data.toList [45]).toArray⟩) = _
 unfold Lib.trimPrefix
 rw [hp]; rfl
theorem cell3 {w : World} {g : Nat} {cs : Array Value} {t : TypeId} (h : w.heap[g]? = some (.cells cs t)) {j : Nat} {v : Value} (hv : cs[j]? = some v) : w.cell? ⟨g, j, none⟩ = some v := by simp [World.cell?, h, hv]
theorem open3 {w : World} {g : Nat} {cs : Array Value} {t : TypeId} (h : w.heap[g]? = some (.cells cs t)) (j : Nat) : w.frozen? ⟨g, j, none⟩ = false := by simp [World.frozen?, h]
theorem blk_keep {w w1 : World} {o : Obj} (hb : Below (w.alloc o).heap.size (w.alloc o) w1) : w1.heap[w.heap.size]? = some o := (hb.block _ (by simp)).trans (heap_alloc_last w o)
theorem pOf_pos (u : Nat) (h1 : (u : Int) <= 9223372036854775807) (w : World) (hP : Pow w) : Calls Tryz.prog 108 #[.int .i64 (u : Int)] w fun e w' => e = .returned (.agg #[.bool false, .string (str (Dc.digs u)), .int .i64 0]) /\ Below w.heap.size w w' := by
 have C : Hid (∀ w, Pow w -> _) := Lib.hid (fint_any (u : Int) (by omega) h1)
 have HP : Hid _ := Lib.hid hP
 clear hP
 go_enter Tryz.func108, Tryz.ntmps108
 go_wp2_with (first
  | (go_at_call 127; refine (C.out _ (HP.out.keep ((Below.refl _ w).alloc (Nat.le_refl _) _))).mono ?_; rintro e w1 ⟨⟨t, rfl, ht⟩, hb⟩; have HT : Hid _ := Lib.hid ht; have HB : Hid _ := Lib.hid hb; have k1 := blk_keep hb; have e0 := cell3 k1 (j := 0) rfl; have e1 := cell3 k1 (j := 1) rfl; have e2 := cell3 k1 (j := 2) rfl; have f0 := open3 k1 0; have f1 := open3 k1 1; have f2 := open3 k1 2; clear k1 ht hb; have HQ : Hid (bts t = Dc.digs u) := Lib.hid (by show t.data.toList.map UInt8.toNat = _; rw [HT.out, Lib.itoa_nonneg, decDigits_digs]))
  | (go_at_call 128; refine (tpre_same t (by rw [HT.out, Lib.itoa_nonneg]; exact dec_head u) _).mono ?_; rintro e w2 ⟨rfl, rfl⟩))
 refine bodyPost_ret (v := .agg #[.bool false, .string t, .int .i64 0]) (by simp [results, Tryz.results108, go_sem, e0, e1, e2]) rfl ⟨by rw [<- HQ.out, str_bts], ?_⟩
 have B0 : Below w.heap.size w (w.alloc (.cells #[.bool false, .string ⟨#[]⟩, .int .i64 0] 24)) := (Below.refl _ w).alloc (Nat.le_refl _) _
 exact (((B0.trans (HB.out.mono B0.size)).setCell (p := ⟨w.heap.size, 0, none⟩) (Nat.le_refl _) _).setCell (p := ⟨w.heap.size, 1, none⟩) (Nat.le_refl _) _).setCell (p := ⟨w.heap.size, 2, none⟩) (Nat.le_refl _) _
theorem tpre_cut (s : ByteArray) (l : List UInt8) (h : s.data.toList = 45 :: l) (w : World) : Calls Tryz.prog 128 #[.string s, .string ⟨#[45]⟩] w fun e w' => (∃ t : ByteArray, e = .returned (.string t) /\ t.data.toList = l) /\ w = w' := by
 refine tpre_any s l ?_ w
 unfold Lib.trimPrefix Lib.hasPrefix
 rw [h]
 simp [List.isPrefixOf]
theorem pOf_neg (u : Nat) (hu : 1 <= u) (h1 : (u : Int) <= 9223372036854775808) (w : World) (hP : Pow w) : Calls Tryz.prog 108 #[.int .i64 (-(u : Int))] w fun e w' => e = .returned (.agg #[.bool true, .string (str (Dc.digs u)), .int .i64 0]) /\ Below w.heap.size w w' := by
 have C : Hid (∀ w, Pow w -> _) := Lib.hid (fint_any (-(u : Int)) (by omega) (by omega))
 have HP : Hid _ := Lib.hid hP
 clear hP
 go_enter Tryz.func108, Tryz.ntmps108
 go_wp2_with (first
  | (go_at_call 127; refine (C.out _ (HP.out.keep ((Below.refl _ w).alloc (Nat.le_refl _) _))).mono ?_; rintro e w1 ⟨⟨t, rfl, ht⟩, hb⟩; have HT : Hid _ := Lib.hid ht; have HB : Hid _ := Lib.hid hb; have k1 := blk_keep hb; have e0 := cell3 k1 (j := 0) rfl; have e1 := cell3 k1 (j := 1) rfl; have e2 := cell3 k1 (j := 2) rfl; have f0 := open3 k1 0; have f1 := open3 k1 1; have f2 := open3 k1 2; clear k1 ht hb; have hTl : Hid (t.data.toList = 45 :: Lib.decDigits u) := Lib.hid (by rw [HT.out, Lib.itoa_neg u hu]))
  | (go_at_call 128; refine (tpre_cut t _ hTl.out _).mono ?_; rintro e w2 ⟨⟨t2, rfl, ht2⟩, rfl⟩; have HQ : Hid (bts t2 = Dc.digs u) := Lib.hid (by show t2.data.toList.map UInt8.toNat = _; rw [ht2, decDigits_digs]); have qd : (t2.toList == t.toList) = false := (by rw [toList_beq]; exact decide_eq_false (fun h => by have h2 := congrArg List.length h; have h3 := hTl.out; simp [bts, ht2, h3] at h2)); clear ht2))
 refine bodyPost_ret (v := .agg #[.bool true, .string t2, .int .i64 0]) (by simp [results, Tryz.results108, go_sem, e0, e1, e2]) rfl ⟨by rw [<- HQ.out, str_bts], ?_⟩
 have B0 : Below w.heap.size w (w.alloc (.cells #[.bool false, .string ⟨#[]⟩, .int .i64 0] 24)) := (Below.refl _ w).alloc (Nat.le_refl _) _
 exact (((B0.trans (HB.out.mono B0.size)).setCell (p := ⟨w.heap.size, 0, none⟩) (Nat.le_refl _) _).setCell (p := ⟨w.heap.size, 1, none⟩) (Nat.le_refl _) _).setCell (p := ⟨w.heap.size, 2, none⟩) (Nat.le_refl _) _
theorem pOf_any (n : Int) (h0 : -9223372036854775808 <= n) (h1 : n <= 9223372036854775807) (w : World) (hP : Pow w) : Calls Tryz.prog 108 #[.int .i64 n] w fun e w' => e = .returned (.agg #[.bool (decide (n < 0)), .string (str (Dc.digs n.natAbs)), .int .i64 0]) /\ Below w.heap.size w w' := by
 rcases (by omega : n < 0 \/ 0 <= n) with hn | hn
 ·obtain ⟨u, rfl⟩ : ∃ u : Nat, n = -(u : Int) := ⟨n.natAbs, by omega⟩
  rw [decide_eq_true hn, Int.natAbs_neg, Int.natAbs_natCast]
  exact pOf_neg u (by omega) (by omega) w hP
 ·obtain ⟨u, rfl⟩ : ∃ u : Nat, n = u := ⟨n.toNat, by omega⟩
  rw [decide_eq_false (by omega), Int.natAbs_natCast]
  exact pOf_pos u h1 w hP
open Go.Ex
set_option maxRecDepth 1000000

theorem some_if (p : Prop) (v k : Nat) (h : p -> v < 10 ^ k) : ∃ x, x < 10 ^ k /\ (p -> v = x) := by
 by_cases hp : p
 ·exact ⟨v, h hp, fun _ => rfl⟩
 ·exact ⟨0, Dc.pow10_pos k, fun q => absurd q hp⟩
theorem max_low {S U : Int} (h1 : 0 <= S /\ S <= 60) (h2 : 0 <= U /\ U <= 60) : (if S < U then U else S) = ((max (lowN S) (lowN U) : Nat) : Int) := by
 rw [<- mx_nat, lowN_eq h1.1 h1.2, lowN_eq h2.1 h2.2]
theorem pscaled_v {n : Bool} {s : ByteArray} {S : Int} (k : OkD n s S) {K A : Nat} (hS : lowN S <= K) (hK : K <= 120) (hA : Dc.val (bts s) * 10 ^ (K - lowN S) = A) {l : List Nat} (hl : NumIs l A) (w : World) : Calls Tryz.prog 83 #[.agg #[.bool n, .string s, .int .i64 S], .int .i64 (K : Int)] w fun e w' => e = .returned (.agg (numV l)) /\ Below w.heap.size w w' := by
 have h := pscaled_any n s (lowN S) K k.size k.dig.all hS hK w
 rw [lowN_eq k.low k.high, hA] at h
 exact num_call hl h
def cmT2 : Tree := .node (.eq (.at 7) (.int 0)) (.node (.eq (.at 8) (.int 0)) (.node (.at 1) (.node (.beq (.tt true) (.at 4)) (.leaf (.tup [.xi .i64 (.mul .i64 (.int (-1)) (.at 9)), it 0])) (.leaf (.tup [it (-1), it 0]))) (.node (.beq (.tt false) (.at 4)) (.leaf (.tup [.xi .i64 (.mul .i64 (.int 1) (.at 9)), it 0])) (.leaf (.tup [it 1, it 0])))) (.leaf (.tup [it 0, it 2]))) (.leaf (.tup [it 0, it 2]))
def pmC : List CallX := [⟨34, [deV 1], [], xi 7⟩, ⟨34, [deV 4], [], xi 8⟩, ⟨83, [deV 1, .xi .i64 mxX], twP, nuV 10⟩, ⟨83, [deV 4, .xi .i64 mxX], twP, nuV 34⟩, ⟨84, [nuV 10, nuV 34], [], xi 9⟩]
theorem run_pcmp : chk (runTr Tryz.prog nG (fun _ => none) (fun _ => true) deT pmC 100 43 [deV 1, deV 4] hN) cmT2 [] = true := by decide +kernel
theorem pcmp_is (n : Bool) (s : ByteArray) (S : Int) (m : Bool) (t : ByteArray) (U : Int) (hs : s.size <= 1000000) (ht : t.size <= 1000000) (z k : Int) (hr : cmpR n s S m t U = (z, k)) (w : World) : Calls Tryz.prog 43 #[.agg #[.bool n, .string s, .int .i64 S], .agg #[.bool m, .string t, .int .i64 U]] w fun e w' => e = .returned (.tuple #[.int .i64 z, .int .i64 k]) /\ Below w.heap.size w w' := by
 have l1 := lowN_le S; have l2 := lowN_le U
 obtain ⟨K, hK⟩ : ∃ K, max (lowN S) (lowN U) = K := ⟨_, rfl⟩
 obtain ⟨A, lA, hA⟩ := some_if (OkD n s S) (Dc.val (bts s) * 10 ^ (K - lowN S)) 120 fun h => scaled_low h.size h.dig.all (by omega)
 obtain ⟨B, lB, hB⟩ := some_if (OkD m t U) (Dc.val (bts t) * 10 ^ (K - lowN U)) 120 fun h => scaled_low h.size h.dig.all (by omega)
 obtain ⟨a, ha⟩ := num_some (lt_top lA (by decide))
 obtain ⟨b, hb⟩ := num_some (lt_top lB (by decide))
 obtain ⟨c, hc⟩ : ∃ c, cmpI A B = c := ⟨_, rfl⟩
 have n1 := nu_den ha.1.len (num_at (x := .int .i64 0) (pre := [.bool n, .string s, .int .i64 S, .bool m, .string t, .int .i64 U, .int .i64 (ckI n s S), .int .i64 (ckI m t U), .int .i64 c]) (post := numC b) (b := 10) ha.1.len rfl)
 have n2 := nu_den hb.1.len (num_at (x := .int .i64 0) (pre := [.bool n, .string s, .int .i64 S, .bool m, .string t, .int .i64 U, .int .i64 (ckI n s S), .int .i64 (ckI m t U), .int .i64 c] ++ numC a) (post := []) (b := 34) hb.1.len (by simp [numC, ha.1.len]))
 rw [List.append_assoc, List.append_nil] at n2
 refine tree_nv (env := .append [.bool n, .string s, .int .i64 S, .bool m, .string t, .int .i64 U, .int .i64 (ckI n s S), .int .i64 (ckI m t U), .int .i64 c] (numC a ++ numC b)) run_pcmp ?_ (show (List.all (numC a ++ numC b) _) = true by rw [List.all_append, numC_one, numC_one]; rfl) trivial rfl rfl ?_
 ·refine ⟨⟨rfl, fk, fun _ L w _ => pcheck_r n s S hs _ rfl w⟩, ⟨rfl, fk, fun _ L w _ => pcheck_r m t U ht _ rfl w⟩, ⟨rfl, fk, fun hp L w _ => ?_⟩, ⟨rfl, fk, fun hp L w _ => ?_⟩, ⟨rfl, fk, fun _ L w _ => ?_⟩, trivial⟩
  ·obtain ⟨k1, k2, _⟩ := tw_of rfl rfl hp
   exact callR (n1 L) (call2 rfl (congrArg (Value.int .i64) (max_low ⟨k1.low, k1.high⟩ ⟨k2.low, k2.high⟩)) (hK ▸ pscaled_v k1 (by omega) (by omega) (hA k1) ha w))
  ·obtain ⟨k1, k2, _⟩ := tw_of rfl rfl hp
   exact callR (n2 L) (call2 rfl (congrArg (Value.int .i64) (max_low ⟨k1.low, k1.high⟩ ⟨k2.low, k2.high⟩)) (hK ▸ pscaled_v k2 (by omega) (by omega) (hB k2) hb w))
  ·have h := pcmp_any a b ha.1 hb.1 w
   rw [ha.2, hb.2, hc] at h
   exact call2 (n1 L) (n2 L) h
 ·show (bif decide (ckI n s S = 0) then bif decide (ckI m t U = 0) then bif n then bif true == m then V.tup [.xi .i64 (.mul .i64 (.int (-1)) (.at 9)), it 0] else .tup [it (-1), it 0] else bif false == m then .tup [.xi .i64 (.mul .i64 (.int 1) (.at 9)), it 0] else .tup [it 1, it 0] else .tup [it 0, it 2] else .tup [it 0, it 2]).den L0 _ = _
  rw [ck_zero, ck_zero]
  unfold cmpR at hr
  cases h1 : okB n s S
  ·rw [if_neg (by rw [h1]; simp)] at hr; cases hr; rfl
  cases h2 : okB m t U
  ·rw [if_neg (by rw [h2]; simp)] at hr; cases hr; rfl
  rw [if_pos ⟨h1, h2⟩] at hr; cases hr
  have k1 := okB_ok h1; have k2 := okB_ok h2
  have e1 : S.toNat = lowN S := by have := lowN_eq k1.low k1.high; omega
  have e2 : U.toNat = lowN U := by have := lowN_eq k2.low k2.high; omega
  have g1 : Dc.val (bts s) * 10 ^ (K - S.toNat) = A := by rw [e1]; exact hA k1
  have g2 : Dc.val (bts t) * 10 ^ (K - U.toNat) = B := by rw [e2]; exact hB k2
  have g3 : max S.toNat U.toNat = K := by rw [e1, e2]; exact hK
  have bd : -1 <= c /\ c <= 1 := by rw [<- hc]; unfold cmpI; repeat' split; all_goals omega
  cases n <;> cases m
  ·show Value.tuple #[.int .i64 (IntKind.i64.wrap (1 * c)), .int .i64 0] = _
   rw [show Dc.cmpD (rawD false s S) (rawD false t U) = c from (Dc.cmpD_pos _ _ _ _ g3 g1 g2).trans hc, IntKind.wrap_i64, show (1 * c + 9223372036854775808) % 18446744073709551616 - 9223372036854775808 = c by omega]
  ·show Value.tuple #[.int .i64 1, .int .i64 0] = _
   rw [Dc.cmpD_pn k1.can k2.can rfl rfl]
  ·show Value.tuple #[.int .i64 (-1), .int .i64 0] = _
   rw [Dc.cmpD_np k1.can k2.can rfl rfl]
  ·show Value.tuple #[.int .i64 (IntKind.i64.wrap (-1 * c)), .int .i64 0] = _
   rw [show Dc.cmpD (rawD true s S) (rawD true t U) = -c from (Dc.cmpD_neg _ _ _ _ g3 g1 g2).trans (congrArg (- ·) hc), IntKind.wrap_i64, show (-1 * c + 9223372036854775808) % 18446744073709551616 - 9223372036854775808 = -c by omega]
set_option maxRecDepth 1000000
theorem repeat_v (z : Int) (c : Nat) (hz : z = c) (hc : c <= 1000) (w : World) : Calls Tryz.prog 99 #[.string ⟨#[48]⟩, .int .i64 z] w fun e w' => e = .returned (.string (zs c)) /\ Below w.heap.size w w' := by
 subst hz
 refine (repeat_zeros c hc w).mono ?_
 rintro e w' ⟨⟨r, rfl, hr⟩, hb⟩
 exact ⟨by rw [<- str_bts r, hr]; rfl, hb⟩
set_option maxRecDepth 1000000
theorem text_whole {n : Bool} {l : List Nat} {u : ByteArray} (hu : bts u = Dc.wide l 0) (x : ByteArray) (hx : bts x = if n then 45 :: bts u else bts u) : x = str (Dc.txt n l 0) := by
 rw [<- str_bts x, hx, hu]
 unfold Dc.txt Dc.dotted
 rw [if_pos rfl]
theorem text_dotted {n : Bool} {l : List Nat} {S : Nat} (hS : S ≠ 0) {u : ByteArray} (hu : bts u = Dc.wide l S) (x : ByteArray) (hx : bts x = if n then 45 :: ((bts u).take (u.size - S) ++ 46 :: (bts u).drop (u.size - S)) else (bts u).take (u.size - S) ++ 46 :: (bts u).drop (u.size - S)) : x = str (Dc.txt n l S) := by
 rw [<- str_bts x, hx, <- bts_length u, hu]
 unfold Dc.txt Dc.dotted
 rw [if_neg hS]
theorem bts_45 (x : ByteArray) : bts (⟨#[45]⟩ ++ x) = 45 :: bts x := by rw [str_add]; rfl
theorem bts_46 (x y : ByteArray) : bts (x ++ ⟨#[46]⟩ ++ y) = bts x ++ 46 :: bts y := by rw [str_add, str_add, List.append_assoc]; rfl
def ptX (w : X) : X := .sub .i64 (.len w) (.at 3)
def dotX (w : X) : X := .cat (.cat (.cut w (.int 0) (ptX w)) (.str [46])) (.cut w (ptX w) (.len w))
def txL (x : X) : Tree := .node (.at 1) (.leaf (.tup [.xs (.cat (.str [45]) x), it 0])) (.leaf (.tup [.xs x, it 0]))
def txT (w : X) : Tree := .node (.lt (.int 0) (.at 3)) (txL (dotX w)) (txL w)
def txF (w : X) : Fx := [(.lt (ptX w) (.int 0), false), (.lt (.len w) (ptX w), false), (.fits (.cut w (.int 0) (ptX w)) (.str [46]), true), (.fits (.cat (.cut w (.int 0) (ptX w)) (.str [46])) (.cut w (ptX w) (.len w)), true), (.fits (.str [45]) (dotX w), true), (.fits (.str [45]) w, true)]
section
variable {E : Nat -> Value} {w : X} {u : ByteArray} {T : Nat} (hu : w.evS E = u) (h3 : E 3 = .int .i64 (T : Int)) (hT : T <= u.size) (hs : u.size <= 1000)
include hu h3 hT hs
theorem pt_ev : (ptX w).evI E = ((u.size - T : Nat) : Int) := by
 simp only [ptX, X.evI, hu, h3]
 rw [wsub hT hs]
theorem dot_ev : (dotX w).evS E = (u.extract 0 (u.size - T) ++ ⟨#[46]⟩) ++ u.extract (u.size - T) u.size := by
 have h := pt_ev hu h3 hT hs
 simp only [dotX, X.evS, hu, h, X.evI, Int.toNat_natCast]
 rfl
theorem txF_ok : (txF w).Ok E := by
 have h := pt_ev hu h3 hT hs
 have hd := dot_ev hu h3 hT hs
 have z46 : (Ex.bytes [46]).size = 1 := rfl
 have z45 : (Ex.bytes [45]).size = 1 := rfl
 have z46' : (⟨#[46]⟩ : ByteArray).size = 1 := rfl
 refine ⟨decide_eq_false ?_, decide_eq_false ?_, decide_eq_true ?_, decide_eq_true ?_, decide_eq_true ?_, decide_eq_true ?_, trivial⟩
 ·rw [h]; simp only [X.evI]; omega
 ·rw [h]; simp only [X.evI, hu]; omega
 ·simp only [X.evS, hu, h, X.evI, Int.toNat_natCast, ByteArray.size_extract, z46]; omega
 ·simp only [X.evS, hu, h, X.evI, Int.toNat_natCast, ByteArray.size_append, ByteArray.size_extract, z46]; omega
 ·rw [hd]; simp only [X.evS, ByteArray.size_append, ByteArray.size_extract, z45, z46']; omega
 ·simp only [X.evS, hu, z45]; omega
theorem tx_at {n : Bool} {l : List Nat} (h1 : E 1 = .bool n) (hw : bts u = Dc.wide l T) : ((txT w).at E).den L0 E = .tuple #[.string (str (Dc.txt n l T)), .int .i64 0] := by
 have hd := dot_ev hu h3 hT hs
 have e : (txT w).at E = bif decide (0 < (T : Int)) then (bif n then .tup [.xs (.cat (.str [45]) (dotX w)), it 0] else .tup [.xs (dotX w), it 0]) else (bif n then .tup [.xs (.cat (.str [45]) w), it 0] else .tup [.xs w, it 0]) := by
  simp only [txT, txL, Tree.at, X.evB, X.evI, h1, h3]
 rw [e]
 have key : ∀ x : X, x.evS E = str (Dc.txt n l T) -> V.den L0 E (.tup [.xs x, it 0]) = .tuple #[.string (str (Dc.txt n l T)), .int .i64 0] := fun x hx => by
  rw [<- hx]; rfl
 have b1 : bts (u.extract 0 (u.size - T)) = (bts u).take (u.size - T) := by rw [bts_extract, List.drop_zero]
 have b2 : bts (u.extract (u.size - T) u.size) = (bts u).drop (u.size - T) := bts_from u _
 by_cases h0 : T = 0
 ·subst h0
  rw [decide_eq_false (by omega), cond_false]
  cases n
  ·exact key w (text_whole hw _ (by rw [if_neg (by decide), hu]))
  ·exact key _ (text_whole hw _ (by rw [if_pos rfl]; show bts (⟨#[45]⟩ ++ w.evS E) = _; rw [bts_45, hu]))
 ·rw [decide_eq_true (by omega), cond_true]
  cases n
  ·exact key _ (text_dotted h0 hw _ (by rw [if_neg (by decide), hd, bts_46, b1, b2]))
  ·exact key _ (text_dotted h0 hw _ (by rw [if_pos rfl]; show bts (⟨#[45]⟩ ++ (dotX w).evS E) = _; rw [bts_45, hd, bts_46, b1, b2]))
end
def rxC : List CallX := [⟨39, [deV 1], [], xi 4⟩, ⟨69, [.xi .i64 (.add .i64 (.sub .i64 (.at 3) (.len (.at 2))) (.int 1))], [(.eq (.at 4) (.int 0), true), (.lt (.at 3) (.len (.at 2)), false)], xs 5⟩]
def ceX : X := .cat (.at 5) (.at 2)
theorem run_rtext0 : chk (runTr Tryz.prog nG (fun _ => none) (fun _ => true) deT rxC 100 32 [deV 1] hN) (.leaf (.tup [.str [], it 2])) [(.eq (.at 4) (.int 0), false)] = true := by decide +kernel
theorem run_rtext1 : chk (runTr Tryz.prog nG (fun _ => none) (fun _ => true) deT rxC 100 32 [deV 1] hN) (txT (.at 2)) ((.eq (.at 4) (.int 0), true) :: (.lt (.at 3) (.len (.at 2)), true) :: txF (.at 2)) = true := by decide +kernel
theorem run_rtext2 : chk (runTr Tryz.prog nG (fun _ => none) (fun _ => true) deT rxC 100 32 [deV 1] hN) (txT ceX) ((.eq (.at 4) (.int 0), true) :: (.lt (.at 3) (.len (.at 2)), false) :: (.fits (.at 5) (.at 2), true) :: txF ceX) = true := by decide +kernel
theorem rtext_is (n : Bool) (s : ByteArray) (S : Int) (hs : s.size <= 1000000) (t : ByteArray) (k : Int) (hr : textR n s S = (t, k)) (w : World) : Calls Tryz.prog 32 #[.agg #[.bool n, .string s, .int .i64 S]] w fun e w' => e = .returned (.tuple #[.string t, .int .i64 k]) /\ Below w.heap.size w w' := by
 have hc : AllX Tryz.prog (envE (.int .i64 0 :: [.bool n, .string s, .int .i64 S, .int .i64 (ckI n s S), .string (zs (S.toNat + 1 - s.size))])) (fun _ => True) rxC := by
  refine ⟨⟨rfl, fk, fun _ L w _ => rcheck_r n s S hs _ rfl w⟩, ⟨rfl, fk, fun hp L w _ => ?_⟩, trivial⟩
  have h1 : decide (ckI n s S = 0) = true := hp.1
  rw [ck_zero] at h1
  have k1 := okB_ok h1
  have h2 := of_decide_eq_false (show decide (S < (s.size : Int)) = false from hp.2.1)
  have := k1.low; have := k1.high; have := k1.size
  refine rzeros_v _ _ ?_ (by omega) w
  show IntKind.i64.wrap (IntKind.i64.wrap (S - (s.size : Int)) + 1) = _
  rw [IntKind.wrap_i64, IntKind.wrap_i64]; omega
 unfold textR at hr
 cases h1 : okB n s S with
 | false =>
  rw [if_neg (by rw [h1]; decide)] at hr; cases hr
  exact tree_nv run_rtext0 hc rfl ⟨by show decide (ckI n s S = 0) = false; rw [ck_zero, h1], trivial⟩ rfl rfl rfl
 | true =>
  rw [if_pos h1] at hr; cases hr
  have k1 := okB_ok h1
  have hz : decide (ckI n s S = 0) = true := by rw [ck_zero, h1]
  obtain ⟨T, rfl⟩ : ∃ T : Nat, S = T := ⟨S.toNat, by have := k1.low; omega⟩
  have hT : T <= 60 := by have := k1.high; omega
  have z := k1.size
  by_cases h : T < s.size
  ·exact tree_nv run_rtext1 hc rfl ⟨hz, decide_eq_true (show (T : Int) < (s.size : Int) by omega), txF_ok (u := s) (T := T) rfl rfl (by omega) (by omega)⟩ rfl rfl (tx_at (u := s) (T := T) (n := n) rfl rfl (by omega) (by omega) rfl (by
    unfold Dc.wide; rw [show T + 1 - (bts s).length = 0 by rw [bts_length]; omega]; rfl))
  ·have zu : (zs (T + 1 - s.size) ++ s).size = T + 1 := by rw [ByteArray.size_append, zs_size]; omega
   exact tree_nv run_rtext2 hc rfl ⟨hz, decide_eq_false (show ¬ (T : Int) < (s.size : Int) by omega), decide_eq_true (show (zs _).size + s.size <= 9223372036854775807 by rw [zs_size]; omega), txF_ok (u := zs (T + 1 - s.size) ++ s) (T := T) rfl rfl (by omega) (by omega)⟩ rfl rfl (tx_at (u := zs (T + 1 - s.size) ++ s) (T := T) (n := n) rfl rfl (by omega) (by omega) rfl (by
    unfold Dc.wide; rw [str_add, zs_bts, bts_length]))
set_option maxRecDepth 1000000

def pxC : List CallX := [⟨34, [deV 1], [], xi 4⟩, ⟨99, [.str [48], .xi .i64 (.mx (.int 0) (.sub .i64 (.add .i64 (.at 3) (.int 1)) (.len (.at 2))))], [(.eq (.at 4) (.int 0), true)], xs 5⟩]
theorem run_ptext0 : chk (runTr Tryz.prog nG (fun _ => none) (fun _ => true) deT pxC 100 65 [deV 1] hN) (.leaf (.tup [.str [], it 2])) [(.eq (.at 4) (.int 0), false)] = true := by decide +kernel
theorem run_ptext1 : chk (runTr Tryz.prog nG (fun _ => none) (fun _ => true) deT pxC 100 65 [deV 1] hN) (txT ceX) ((.eq (.at 4) (.int 0), true) :: (.fits (.at 5) (.at 2), true) :: txF ceX) = true := by decide +kernel
theorem ptext_is (n : Bool) (s : ByteArray) (S : Int) (hs : s.size <= 1000000) (t : ByteArray) (k : Int) (hr : textR n s S = (t, k)) (w : World) : Calls Tryz.prog 65 #[.agg #[.bool n, .string s, .int .i64 S]] w fun e w' => e = .returned (.tuple #[.string t, .int .i64 k]) /\ Below w.heap.size w w' := by
 have hc : AllX Tryz.prog (envE (.int .i64 0 :: [.bool n, .string s, .int .i64 S, .int .i64 (ckI n s S), .string (zs (S.toNat + 1 - s.size))])) (fun _ => True) pxC := by
  refine ⟨⟨rfl, fk, fun _ L w _ => pcheck_r n s S hs _ rfl w⟩, ⟨rfl, fk, fun hp L w _ => ?_⟩, trivial⟩
  have h1 : decide (ckI n s S = 0) = true := hp.1
  rw [ck_zero] at h1
  have k1 := okB_ok h1
  have := k1.low; have := k1.high; have := k1.size
  refine repeat_v _ _ ?_ (by omega) w
  show (if (0 : Int) < IntKind.i64.wrap (IntKind.i64.wrap (S + 1) - (s.size : Int)) then IntKind.i64.wrap (IntKind.i64.wrap (S + 1) - (s.size : Int)) else 0) = _
  rw [IntKind.wrap_i64, IntKind.wrap_i64]
  split <;> omega
 unfold textR at hr
 cases h1 : okB n s S with
 | false =>
  rw [if_neg (by rw [h1]; decide)] at hr; cases hr
  exact tree_nv run_ptext0 hc rfl ⟨by show decide (ckI n s S = 0) = false; rw [ck_zero, h1], trivial⟩ rfl rfl rfl
 | true =>
  rw [if_pos h1] at hr; cases hr
  have k1 := okB_ok h1
  have hz : decide (ckI n s S = 0) = true := by rw [ck_zero, h1]
  obtain ⟨T, rfl⟩ : ∃ T : Nat, S = T := ⟨S.toNat, by have := k1.low; omega⟩
  have hT : T <= 60 := by have := k1.high; omega
  have z := k1.size
  have zu : (zs (T + 1 - s.size) ++ s).size = (T + 1 - s.size) + s.size := by rw [ByteArray.size_append, zs_size]
  exact tree_nv run_ptext1 hc rfl ⟨hz, decide_eq_true (show (zs _).size + s.size <= 9223372036854775807 by rw [zs_size]; omega), txF_ok (u := zs (T + 1 - s.size) ++ s) (T := T) rfl rfl (by omega) (by omega)⟩ rfl rfl (tx_at (u := zs (T + 1 - s.size) ++ s) (T := T) (n := n) rfl rfl (by omega) (by omega) rfl (by
   unfold Dc.wide; rw [str_add, zs_bts, bts_length]))
end Go.Proofs.YthoojcdjjecogaaGreatDoor
