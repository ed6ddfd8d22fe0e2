/-
  Part 22 of the proof: what functions return, and plain facts (Mprd). Conditions: each theorem names its own.
-/
import Derived.Test.YthoojcdjjecogaaGreatDoorG21
import Derived.Lib.Atoi
set_option maxRecDepth 1000000
set_option maxHeartbeats 16000000
namespace Go.Proofs.YthoojcdjjecogaaGreatDoor
open Go Go.RowKit

structure RP (w : World) (p r : Nat) (s : ByteArray) : Prop where
 v : Blk w p 240 #[.pointer (some ⟨r, 0, none⟩)]
 b : Blk w r 246 #[.string s, .func (.func 247) #[] #[.pointer (some ⟨p, 0, none⟩)]]
 ne : p ≠ r
section
variable {w w' : World} {p r : Nat} {s : ByteArray}
theorem RP.v0 (h : RP w p r s) : w.cell? ⟨p, 0, none⟩ = some (.pointer (some ⟨r, 0, none⟩)) := h.v.at rfl
theorem RP.c0 (h : RP w p r s) : w.cell? ⟨r, 0, none⟩ = some (.string s) := h.b.at rfl
theorem RP.c1 (h : RP w p r s) : w.cell? ⟨r, 1, none⟩ = some (.func (.func 247) #[] #[.pointer (some ⟨p, 0, none⟩)]) := h.b.at rfl
theorem RP.f0 (h : RP w p r s) (j : Nat) : w.frozen? ⟨r, j, none⟩ = false := h.b.free j
theorem RP.put (h : RP w p r s) (t : ByteArray) : RP (w.setCell ⟨r, 0, none⟩ (.string t)) p r t := ⟨h.v.other h.ne 0 _, h.b.set 0 (.string t), h.ne⟩
theorem RP.keep (h : RP w p r s) (hb : Below w.heap.size w w') : RP w' p r s := ⟨h.v.keep hb, h.b.keep hb, h.ne⟩
theorem RP.ch {S : List Nat} (h : RP w p r s) (hc : Ch S w w') (h1 : p ∉ S) (h2 : r ∉ S) : RP w' p r s := ⟨hc.blk h.v h1, hc.blk h.b h2, h.ne⟩
end
def bad6 : Ending := .panicked [{ v := .iface 30 (.int .i64 6), recovered := false }]
theorem trim1 (l : List UInt8) (c : UInt8) : Lib.hasPrefix l [c] = (Mo.hasP c.toNat (l.map UInt8.toNat)).1 /\ (Lib.trimPrefix l [c]).map UInt8.toNat = (Mo.hasP c.toNat (l.map UInt8.toNat)).2 := by
 cases l with
 | nil => exact ⟨rfl, rfl⟩
 | cons a r =>
  by_cases h : a = c
  ·subst h
   have e : Lib.hasPrefix (a :: r) [a] = true := by simp [Lib.hasPrefix]
   unfold Lib.trimPrefix
   rw [e, List.map_cons, Mo.hasP_yes]
   exact ⟨rfl, rfl⟩
  ·have e : Lib.hasPrefix (a :: r) [c] = false := by simp [Lib.hasPrefix, List.isPrefixOf]; exact fun q => h q.symm
   have hn : a.toNat ≠ c.toNat := fun q => h (UInt8.toNat_inj.1 q)
   unfold Lib.trimPrefix
   rw [e, List.map_cons, Mo.hasP_no _ hn]
   exact ⟨rfl, rfl⟩
theorem phas_is (p r : Nat) (s : ByteArray) (c : UInt8) (w : World) (h : RP w p r s) : Calls Tryz.prog 248 #[.pointer (some ⟨r, 0, none⟩), .string ⟨#[c]⟩] w fun e w' => ∃ t : ByteArray, e = .returned (.bool (Mo.hasP c.toNat (bts s)).1) /\ bts t = (Mo.hasP c.toNat (bts s)).2 /\ t.size <= s.size /\ RP w' p r t /\ Ch [r] w w' := by
 have c0 := h.c0
 have f0 := h.f0 0
 obtain ⟨e1, e2⟩ := trim1 s.data.toList c
 obtain ⟨t, ht⟩ : ∃ t : ByteArray, t = ⟨(Lib.trimPrefix s.data.toList [c]).toArray⟩ := ⟨_, rfl⟩
 have htb : bts t = (Mo.hasP c.toNat (bts s)).2 := by rw [ht]; unfold bts; simpa using e2
 have hts : t.size <= s.size := by
  rw [<- bts_length t, htb, <- bts_length s]
  cases bts s with
  | nil => exact Nat.le_refl _
  | cons a l =>
   by_cases ha : a = c.toNat
   ·rw [ha, Mo.hasP_yes]; simp
   ·rw [Mo.hasP_no _ ha]; exact Nat.le_refl _
 have hx : Lib.hasPrefix s.data.toList [c] = (Mo.hasP c.toNat (bts s)).1 := e1
 have CP : Hid (∀ w, Calls Tryz.prog 250 #[.string s, .string ⟨#[c]⟩] w fun e w' => e = .returned (.tuple #[.string t, .bool (Mo.hasP c.toNat (bts s)).1]) /\ w' = w) := Lib.hid (fun w => by
  refine (Tryz.strings_CutPrefix s ⟨#[c]⟩ w).mono ?_
  rintro e w' ⟨rfl, hw⟩
  exact ⟨by rw [<- hx, ht], hw⟩)
 have HB := Lib.hid htb
 clear e1 e2 ht htb hx
 go_enter Tryz.func248, Tryz.ntmps248
 go_wp2_with (go_at_call 250; refine (CP.out _).mono ?_; rintro e w1 ⟨rfl, rfl⟩)
 go_ret
 exact ⟨t, rfl, HB.out, hts, h.put t, (Ch.refl _ _).set (by simp) _ _⟩
theorem pwant_is (p r : Nat) (s : ByteArray) (c : UInt8) (w : World) (h : RP w p r s) : Calls Tryz.prog 243 #[.pointer (some ⟨r, 0, none⟩), .string ⟨#[c]⟩] w fun e w' => ((∃ t : ByteArray, e = .returned (.tuple #[]) /\ Mo.wantP c.toNat (bts s) = some (bts t) /\ t.size <= s.size /\ RP w' p r t) \/ (e = bad6 /\ Mo.wantP c.toNat (bts s) = none)) /\ Ch [r] w w' := by
 have CH := Lib.hid (phas_is p r s c w h)
 have hw := Lib.hid (want_has c.toNat (bts s))
 clear h
 go_enter Tryz.func243, Tryz.ntmps243
 go_wp2_with fail
 refine (CH.out).mono ?_
 clear CH
 rintro e w1 ⟨t, rfl, ht, hts, hr, hc⟩
 cases hb : (Mo.hasP c.toNat (bts s)).1 with
 | true =>
  have HW : Hid (Mo.wantP c.toNat (bts s) = some (bts t)) := Lib.hid (by rw [hw.out, hb, ht]; rfl)
  clear hw hb ht
  go_wp2
  go_end0
  exact ⟨.inl ⟨t, rfl, HW.out, hts, hr⟩, hc⟩
 | false =>
  have HW : Hid (Mo.wantP c.toNat (bts s) = none) := Lib.hid (by rw [hw.out, hb]; rfl)
  clear hw hb ht
  go_wp2
  exact ⟨rfl, .inr ⟨rfl, HW.out⟩, hc⟩
theorem pdigits_is' (p r : Nat) (s : ByteArray) (m : Nat) (hs : s.size <= 1000000) (hm : m <= 1000000) (w : World) (h : RP w p r s) : Calls Tryz.prog 247 #[.int .i64 (m : Int), .pointer (some ⟨p, 0, none⟩)] w fun e w' => ((∃ t u : ByteArray, e = .returned (.string t) /\ (m <= (bts s).length /\ ((bts s).take m).all Dc.dig = true) /\ bts t = (bts s).take m /\ bts u = (bts s).drop m /\ RP w' p r u) \/ (e = bad6 /\ Mo.numP m (bts s) = none)) /\ Ch [r] w w' := by
 have v0 := h.v0
 have c0 := h.c0
 have f0 := h.f0 0
 go_enter Tryz.func247, Tryz.ntmps247
 go_wp2
 go_loop [7] (fun i => ∃ k : Nat, k <= m /\ k <= s.size /\ i = .int .i64 (k : Int) /\ Hid (((bts s).take k).all Dc.dig = true)) (fun i => m - (intOf i).toNat)
 case atStart => exact ⟨0, Nat.zero_le _, Nat.zero_le _, rfl, Lib.hid rfl⟩
 case round =>
  obtain ⟨k, hk, hks, rfl, hall⟩ := hrel
  by_cases hlt : k < m
  ·by_cases h0 : k < s.size
   ·obtain ⟨c, hc⟩ : ∃ c, (s[k]'h0).toNat = c := ⟨_, rfl⟩
    have hkz : (k : Int) < (s.size : Int) := by omega
    by_cases hd : 48 <= c /\ c <= 57
    ·have hall2 : Hid (((bts s).take (k + 1)).all Dc.dig = true) := Lib.hid (by rw [bts_take_succ s k h0, List.all_append, hall.out, hc]; simp [Dc.dig, hd.1, hd.2])
     have d1 : decide ((c : Int) < 48) = false := decide_eq_false (by omega)
     have d2 : decide (57 < (c : Int)) = false := decide_eq_false (by omega)
     clear hd hall
     go_wp2
     go_round
     case rel => exact ⟨k + 1, by omega, by omega, by simp, hall2⟩
     case measure => simp [intOf]; omega
    ·have hno := Lib.hid (num_none (m := m) (l := bts s) hlt (by
      intro c' q e
      have hl : k < (bts s).length := by rw [bts_length]; exact h0
      rw [List.drop_eq_getElem_cons hl, bts_get s k h0, hc] at e
      cases e
      cases hq : Dc.dig c with
      | false => rfl
      | true => exact absurd (Dc.dig_iff.1 hq) hd))
     by_cases h1 : c < 48
     ·have d1 : decide ((c : Int) < 48) = true := decide_eq_true (by omega)
      clear hd h1 hall
      go_wp2
      exact ⟨rfl, .inr ⟨rfl, hno.out⟩, Ch.refl _ _⟩
     ·have d1 : decide ((c : Int) < 48) = false := decide_eq_false (by omega)
      have d2 : decide (57 < (c : Int)) = true := decide_eq_true (by omega)
      clear hd h1 hall
      go_wp2
      exact ⟨rfl, .inr ⟨rfl, hno.out⟩, Ch.refl _ _⟩
   ·obtain rfl : k = s.size := by omega
    have hno := Lib.hid (num_none (m := m) (l := bts s) hlt (by
     intro c' q e
     rw [List.drop_of_length_le (by rw [bts_length]; exact Nat.le_refl _)] at e
     cases e))
    clear hall
    go_wp2
    exact ⟨rfl, .inr ⟨rfl, hno.out⟩, Ch.refl _ _⟩
  ·obtain rfl : k = m := by omega
   obtain ⟨t, ht⟩ : ∃ t, s.extract 0 k = t := ⟨_, rfl⟩
   obtain ⟨u, hu⟩ : ∃ u, s.extract k s.size = u := ⟨_, rfl⟩
   have htb := Lib.hid (show bts t = (bts s).take k by rw [<- ht, bts_extract, List.drop_zero])
   have hub := Lib.hid (show bts u = (bts s).drop k by rw [<- hu, bts_from])
   have hki : (k : Int) <= (s.size : Int) := by omega
   have hk0 : (0 : Int) <= (k : Int) := by omega
   go_wp2
   go_region
   go_wp2
   go_ret
   exact ⟨.inl ⟨t, u, rfl, ⟨by rw [bts_length]; exact hks, hall.out⟩, htb.out, hub.out, (h.put u).keep (below_drew _)⟩, ((Ch.refl _ _).set (by simp) _ _).trans (Ch.ofBelow (below_drew _))⟩
theorem pdigits_is (p r : Nat) (s : ByteArray) (m : Nat) (hs : s.size <= 1000000) (hm : m <= 1000000) (w : World) (h : RP w p r s) : Calls Tryz.prog 247 #[.int .i64 (m : Int), .pointer (some ⟨p, 0, none⟩)] w fun e w' => ((∃ t u : ByteArray, e = .returned (.string t) /\ Mo.numP m (bts s) = some (Dc.val (bts t), bts u) /\ bts t = (bts s).take m /\ t.size = m /\ (bts t).all Dc.dig = true /\ u.size <= s.size /\ RP w' p r u) \/ (e = bad6 /\ Mo.numP m (bts s) = none)) /\ Ch [r] w w' := by
 refine (pdigits_is' p r s m hs hm w h).mono ?_
 rintro e w' ⟨⟨t, u, rfl, hd, ht, hu, hr⟩ | ⟨rfl, hn⟩, hc⟩
 ·refine ⟨.inl ⟨t, u, rfl, ?_, ht, ?_, ?_, ?_, hr⟩, hc⟩
  ·unfold Mo.numP; rw [if_pos hd, ht, hu]
  ·rw [<- bts_length t, ht, List.length_take]; omega
  ·rw [ht]; exact hd.2
  ·rw [<- bts_length u, hu, List.length_drop, bts_length]; omega
 ·exact ⟨.inr ⟨rfl, hn⟩, hc⟩
theorem dec_val : ∀ (l : List UInt8) (a : Nat), (l.map UInt8.toNat).all Dc.dig = true -> Lib.decFrom a l = some ((l.map UInt8.toNat).foldl (fun a c => a * 10 + (c - 48)) a)
 | [], _, _ => rfl
 | b :: l, a, h => by
  rw [List.map_cons, List.all_cons, Bool.and_eq_true] at h
  have hb := Dc.dig_iff.1 h.1
  unfold Lib.decFrom Lib.digitVal
  rw [if_pos hb]
  simp only [List.map_cons, List.foldl_cons]
  exact dec_val l _ h.2
theorem atoi_val {t : ByteArray} (h : (bts t).all Dc.dig = true) (hp : 0 < t.size) : Lib.atoi t.data.toList = some ((Dc.val (bts t) : Nat) : Int) := by
 have hb : bts t = t.data.toList.map UInt8.toNat := rfl
 rw [hb] at h ⊢
 have hl : 0 < t.data.toList.length := by rw [Array.length_toList]; exact hp
 generalize t.data.toList = l at h hl ⊢
 cases l with
 | nil => cases hl
 | cons b l =>
  have h2 := h
  rw [List.map_cons, List.all_cons, Bool.and_eq_true] at h2
  have hb := Dc.dig_iff.1 h2.1
  unfold Lib.atoi
  have n1 : (b == 45) = false := by rw [beq_eq_false_iff_ne]; intro q; rw [q] at hb; exact absurd hb (by decide)
  have n2 : (b == 43) = false := by rw [beq_eq_false_iff_ne]; intro q; rw [q] at hb; exact absurd hb (by decide)
  simp only [n1, n2, Bool.false_eq_true, if_false]
  unfold Lib.decNat
  simp only [List.isEmpty_cons, Bool.false_eq_true, if_false]
  rw [dec_val _ 0 h]
  rfl
theorem pnumber_is (p r : Nat) (s : ByteArray) (m : Nat) (hs : s.size <= 1000000) (hm0 : 1 <= m) (hm : m <= 4) (w : World) (h : RP w p r s) : Calls Tryz.prog 249 #[.pointer (some ⟨r, 0, none⟩), .int .i64 (m : Int)] w fun e w' => ((∃ (v : Nat) (u : ByteArray), e = .returned (.int .i64 (v : Int)) /\ Mo.numP m (bts s) = some (v, bts u) /\ v < 10000 /\ u.size <= s.size /\ RP w' p r u) \/ (e = bad6 /\ Mo.numP m (bts s) = none)) /\ Ch [r] w w' := by
 have c1 := h.c1
 have CD := Lib.hid (pdigits_is p r s m hs (by omega) w h)
 clear h
 go_enter Tryz.func249, Tryz.ntmps249
 go_wp2_with fail
 refine (CD.out).mono ?_
 clear CD
 rintro e w1 ⟨⟨t, u, rfl, hn, ht, htm, htd, hus, hr⟩ | ⟨rfl, hn⟩, hc⟩
 ·have hv : Dc.val (bts t) < 10000 := Nat.lt_of_lt_of_le (Dc.val_lt htd) (by rw [bts_length, htm]; exact Nat.le_trans (Nat.pow_le_pow_right (by decide) hm) (by decide))
  have CA := Lib.hid (Tryz.strconv_Atoi t (Dc.val (bts t) : Nat) (by omega) (atoi_val htd (by omega)) w1)
  obtain ⟨v, hvv⟩ : ∃ v, Dc.val (bts t) = v := ⟨_, rfl⟩
  rw [hvv] at hn hv CA
  have HN := Lib.hid hn
  clear hn ht htd hvv
  go_wp2_with fail
  refine (CA.out).mono ?_
  rintro e w2 ⟨rfl, q, rfl⟩
  have hb : Below w1.heap.size w1 (Lib.bytesWorld w1 5 q) := ⟨rfl, rfl, rfl, by rw [Lib.bytesWorld_size]; omega, fun k hk => Lib.bytesWorld_at_old w1 5 q k hk⟩
  have hr2 := Lib.hid (hr.keep hb)
  have hc2 := Lib.hid (hc.trans (Ch.ofBelow hb))
  generalize Lib.bytesWorld w1 5 q = w2 at *
  go_wp2
  go_ret
  exact ⟨.inl ⟨v, u, rfl, HN.out, hv, hus, hr2.out⟩, hc2.out⟩
 ·have HN := Lib.hid hn
  clear hn
  unfold bad6
  go_wp2
  exact ⟨rfl, .inr ⟨rfl, HN.out⟩, hc⟩
end Go.Proofs.YthoojcdjjecogaaGreatDoor
