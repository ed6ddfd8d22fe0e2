/-
  Part 5 of the proof: what functions return, and plain facts (Rmade). Conditions: each theorem names its own.
-/
import Derived.Test.YthoojcdjjecogaaGreatDoorG04
set_option maxRecDepth 1000000
set_option maxHeartbeats 16000000
namespace Go.Proofs.YthoojcdjjecogaaGreatDoor
open Go Go.RowKit
def madeEnd : Option Dc.D -> Ending
 | some a => .returned (.tuple #[.agg #[.bool a.1, .string (str (Dc.digs a.2.1)), .int .i64 (a.2.2 : Int)], .int .i64 0])
 | none => .returned (.tuple #[.agg #[.bool false, .string ⟨#[]⟩, .int .i64 0], .int .i64 7])
theorem made_zero {neg : Bool} {v S : Nat} (h : v = 0) : Ending.returned (.tuple #[.agg #[.bool false, .string ⟨#[48]⟩, .int .i64 0], .int .i64 0]) = madeEnd (Dc.can neg v S) := by
 subst h; rfl
theorem made_range {neg : Bool} {v S x T : Nat} (h : v ≠ 0) (hs : Dc.strip v S = (x, T)) (hr : 60 < (Dc.digs x).length \/ 60 < T) : Ending.returned (.tuple #[.agg #[.bool false, .string ⟨#[]⟩, .int .i64 0], .int .i64 7]) = madeEnd (Dc.can neg v S) := by
 unfold Dc.can; rw [if_neg h, hs, if_pos hr]; rfl
theorem made_good {neg : Bool} {v S x T : Nat} (h : v ≠ 0) (hs : Dc.strip v S = (x, T)) (hr : ¬ (60 < (Dc.digs x).length \/ 60 < T)) {t : ByteArray} (ht : t = str (Dc.digs x)) : Ending.returned (.tuple #[.agg #[.bool neg, .string t, .int .i64 (T : Int)], .int .i64 0]) = madeEnd (Dc.can neg v S) := by
 unfold Dc.can; rw [if_neg h, hs, if_neg hr, ht]; rfl

theorem rmade_any (neg : Bool) (s : ByteArray) (S : Nat) (hs : s.size <= 1000) (hS : S <= 1000) (h1 : Digs s) (w : World) : Calls Tryz.prog 98 #[.bool neg, .string s, .int .i64 (S : Int)] w fun e w' => e = madeEnd (Dc.can neg (Dc.val (bts s)) S) /\ Below w.heap.size w w' := by
 have H1 : Hid _ := Lib.hid h1
 clear h1
 have hs1 : s.size <= 1000000 := by omega
 obtain ⟨v, hv⟩ : ∃ v, Dc.val (bts s) = v := ⟨_, rfl⟩
 have hbl : Hid ((Dc.digs v).length <= 1000) := Lib.hid (by
  have h2 := Dc.val_lt H1.out.all
  rw [bts_length, hv] at h2
  have h3 := Nat.pow_le_pow_right (n := 10) (by decide) hs
  exact (Dc.digs_length (by decide)).2 (by omega))
 have C : Hid (∀ w, Calls Tryz.prog 113 #[.string s] w fun e w' => (∃ t : ByteArray, e = .returned (.string t) /\ t = str (Dc.digs v)) /\ w = w') := Lib.hid (by rw [<- hv]; exact rbare_digs s hs1 H1.out)
 have hvg : Dc.val (bts s) = v := hv
 rw [hvg]
 clear hv hvg
 go_enter Tryz.func98, Tryz.ntmps98
 go_wp2_with (go_at_call 113; refine (C.out _).mono ?_; rintro e w4 ⟨⟨t0, rfl, ht0⟩, rfl⟩; have HT0 : Hid _ := Lib.hid ht0; clear ht0)
 go_loop [1, 2] (fun a b => ∃ (x T : Nat) (t : ByteArray), a = .string t /\ b = .int .i64 (T : Int) /\ T <= 1000 /\ t.size <= 1000 /\ Hid (bts t = Dc.digs x) /\ Hid (Dc.strip x T = Dc.strip v S) /\ Hid (x = 0 ↔ v = 0)) (fun _ b => (intOf b).toNat)
 case atStart => exact ⟨v, S, t0, rfl, rfl, hS, by rw [<- bts_length, HT0.out, bts_digs]; exact hbl.out, Lib.hid (by rw [HT0.out, bts_digs]), Lib.hid rfl, Lib.hid Iff.rfl⟩
 case round =>
  obtain ⟨x, T, t, rfl, rfl, hT, ht, hbt, hst, hx0⟩ := hrel
  by_cases hT0 : T = 0
  ·subst hT0
   have hdone : Hid (0 = 0 \/ (x ≠ 0 -> x % 10 ≠ 0)) := Lib.hid (.inl rfl)
   by_cases hxz : x = 0
   ·have q : (t.toList == [48]) = true := by rw [word_beq, hbt.out, hxz]; rfl
    have hz : Hid (v = 0) := Lib.hid (hx0.out.1 hxz)
    clear hxz hbt hst hx0
    go_wp2
    all_goals refine bodyPost_ret (v := .tuple #[.agg #[.bool false, .string ⟨#[48]⟩, .int .i64 0], .int .i64 0]) (by simp [results, Tryz.results98, go_sem]) rfl ⟨made_zero hz.out, (by repeat (first | exact Below.refl _ _ | refine Below.alloc ?_ (by simp) _ | refine Below.setCell ?_ (by simp) _))⟩
   ·have q : (t.toList == [48]) = false := by
     rw [word_beq, hbt.out]
     exact decide_eq_false (fun h => Dc.digs_head hxz (by rw [h]; rfl))
    have hnz : Hid (v ≠ 0) := Lib.hid (fun h => hxz (hx0.out.2 h))
    have hfs : Hid (Dc.strip v S = (x, 0)) := Lib.hid (by rw [<- hst.out]; exact Dc.strip_done (.inl rfl))
    have hsz : Hid (t.size = (Dc.digs x).length) := Lib.hid (by rw [<- bts_length, hbt.out])
    by_cases r1 : 60 < t.size
    ·have d1 : decide (60 < (t.size : Int)) = true := decide_eq_true (by omega)
     have hr : Hid (60 < (Dc.digs x).length \/ 60 < 0) := Lib.hid (.inl (by have := hsz.out; omega))
     clear hxz hbt hst hx0 r1
     go_wp2
     all_goals refine bodyPost_ret (v := .tuple #[.agg #[.bool false, .string ⟨#[]⟩, .int .i64 0], .int .i64 7]) (by simp [results, Tryz.results98, go_sem]) rfl ⟨made_range hnz.out hfs.out hr.out, (by repeat (first | exact Below.refl _ _ | refine Below.alloc ?_ (by simp) _ | refine Below.setCell ?_ (by simp) _))⟩
    ·have d1 : decide (60 < (t.size : Int)) = false := decide_eq_false (by omega)
     by_cases r2 : 60 < 0
     ·exact absurd r2 (by decide)
     ·have d2 : decide (60 < ((0 : Nat) : Int)) = false := decide_eq_false (by omega)
      have hr : Hid (¬ (60 < (Dc.digs x).length \/ 60 < 0)) := Lib.hid (by have := hsz.out; omega)
      have htx : Hid (t = str (Dc.digs x)) := Lib.hid (by rw [<- hbt.out, str_bts])
      clear hxz hbt hst hx0 r1 r2
      go_wp2
      all_goals refine bodyPost_ret (v := .tuple #[.agg #[.bool neg, .string t, .int .i64 ((0 : Nat) : Int)], .int .i64 0]) (by simp [results, Tryz.results98, go_sem]) rfl ⟨made_good hnz.out hfs.out hr.out htx.out, (by repeat (first | exact Below.refl _ _ | refine Below.alloc ?_ (by simp) _ | refine Below.setCell ?_ (by simp) _))⟩
  ·have hTp : 1 <= T := by omega
   by_cases hl : 1 < t.size
   ·obtain ⟨L, hL⟩ : ∃ L, t.size = L + 1 := ⟨t.size - 1, by omega⟩
    have hLt : L < t.size := by omega
    obtain ⟨c, hc⟩ : ∃ c, (t[L]'hLt).toNat = c := ⟨_, rfl⟩
    have hxl : Hid (10 <= x) := Lib.hid (by
     rcases Nat.lt_or_ge x 10 with h | h
     ·have h3 := bts_length t
      rw [hbt.out, Dc.digs_low h] at h3; simp at h3; omega
     ·exact h)
    have hcx : Hid (c = 48 + x % 10) := Lib.hid (by
     have h3 := Dc.digs_last x
     rw [<- hbt.out, List.getLast?_eq_getElem?, bts_length, hL, Nat.add_sub_cancel, List.getElem?_eq_getElem (by rw [bts_length]; exact hLt), bts_get t L hLt, hc] at h3
     exact Option.some.inj h3)
    have hL1 : 1 <= L := by omega
    have hL2 : L <= 1000 := by omega
    by_cases h48 : c = 48
    ·subst h48
     obtain ⟨t2, ht2⟩ : ∃ t2, t.extract 0 L = t2 := ⟨_, rfl⟩
     have hb2 : Hid (bts t2 = Dc.digs (x / 10)) := Lib.hid (by
      have h3 : bts t = Dc.digs (x / 10) ++ [48 + x % 10] := by rw [hbt.out, Dc.digs_step hxl.out]
      have h4 := bts_length t
      rw [h3, List.length_append, hL] at h4
      rw [<- ht2, bts_extract, h3, List.drop_zero, List.take_left' (by simpa using h4)])
     have hs2 : Hid (Dc.strip (x / 10) (T - 1) = Dc.strip v S) := Lib.hid (by
      rw [<- hst.out]
      obtain ⟨U, rfl⟩ : ∃ U, T = U + 1 := ⟨T - 1, by omega⟩
      rw [Dc.strip, if_pos (by have := hcx.out; omega)]; rfl)
     have hx2 : Hid (x / 10 = 0 ↔ v = 0) := Lib.hid (by rw [<- hx0.out]; have := hxl.out; omega)
     have ht2s : t2.size <= 1000 := by rw [<- ht2]; simp; omega
     obtain ⟨U, rfl⟩ : ∃ U, T = U + 1 := ⟨T - 1, by omega⟩
     clear hbt hst hx0 hl hT0
     go_wp2
     go_round
     case rel => exact ⟨x / 10, U, t2, rfl, by go_num, by omega, ht2s, hb2, hs2, hx2⟩
     case measure => simp [intOf]
    ·have d3 : ((c : Int) == 48) = false := beq_no h48
     have hdone : Hid (T = 0 \/ (x ≠ 0 -> x % 10 ≠ 0)) := Lib.hid (.inr (fun _ => by have := hcx.out; omega))
     clear h48
     by_cases hxz : x = 0
     ·have q : (t.toList == [48]) = true := by rw [word_beq, hbt.out, hxz]; rfl
      have hz : Hid (v = 0) := Lib.hid (hx0.out.1 hxz)
      clear hxz hbt hst hx0
      go_wp2
      all_goals refine bodyPost_ret (v := .tuple #[.agg #[.bool false, .string ⟨#[48]⟩, .int .i64 0], .int .i64 0]) (by simp [results, Tryz.results98, go_sem]) rfl ⟨made_zero hz.out, (by repeat (first | exact Below.refl _ _ | refine Below.alloc ?_ (by simp) _ | refine Below.setCell ?_ (by simp) _))⟩
     ·have q : (t.toList == [48]) = false := by
       rw [word_beq, hbt.out]
       exact decide_eq_false (fun h => Dc.digs_head hxz (by rw [h]; rfl))
      have hnz : Hid (v ≠ 0) := Lib.hid (fun h => hxz (hx0.out.2 h))
      have hfs : Hid (Dc.strip v S = (x, T)) := Lib.hid (by rw [<- hst.out]; exact Dc.strip_done (hdone.out.imp id (fun h => h hxz)))
      have hsz : Hid (t.size = (Dc.digs x).length) := Lib.hid (by rw [<- bts_length, hbt.out])
      by_cases r1 : 60 < t.size
      ·have d1 : decide (60 < (L : Int) + 1) = true := decide_eq_true (by omega)
       have hr : Hid (60 < (Dc.digs x).length \/ 60 < T) := Lib.hid (.inl (by have := hsz.out; omega))
       clear hxz hbt hst hx0 r1
       go_wp2
       all_goals refine bodyPost_ret (v := .tuple #[.agg #[.bool false, .string ⟨#[]⟩, .int .i64 0], .int .i64 7]) (by simp [results, Tryz.results98, go_sem]) rfl ⟨made_range hnz.out hfs.out hr.out, (by repeat (first | exact Below.refl _ _ | refine Below.alloc ?_ (by simp) _ | refine Below.setCell ?_ (by simp) _))⟩
      ·have d1 : decide (60 < (L : Int) + 1) = false := decide_eq_false (by omega)
       by_cases r2 : 60 < T
       ·have d2 : decide (60 < (T : Int)) = true := decide_eq_true (by omega)
        have hr : Hid (60 < (Dc.digs x).length \/ 60 < T) := Lib.hid (.inr r2)
        clear hxz hbt hst hx0 r1 r2
        go_wp2
        all_goals refine bodyPost_ret (v := .tuple #[.agg #[.bool false, .string ⟨#[]⟩, .int .i64 0], .int .i64 7]) (by simp [results, Tryz.results98, go_sem]) rfl ⟨made_range hnz.out hfs.out hr.out, (by repeat (first | exact Below.refl _ _ | refine Below.alloc ?_ (by simp) _ | refine Below.setCell ?_ (by simp) _))⟩
       ·have d2 : decide (60 < (T : Int)) = false := decide_eq_false (by omega)
        have hr : Hid (¬ (60 < (Dc.digs x).length \/ 60 < T)) := Lib.hid (by have := hsz.out; omega)
        have htx : Hid (t = str (Dc.digs x)) := Lib.hid (by rw [<- hbt.out, str_bts])
        clear hxz hbt hst hx0 r1 r2
        go_wp2
        all_goals refine bodyPost_ret (v := .tuple #[.agg #[.bool neg, .string t, .int .i64 (T : Int)], .int .i64 0]) (by simp [results, Tryz.results98, go_sem]) rfl ⟨made_good hnz.out hfs.out hr.out htx.out, (by repeat (first | exact Below.refl _ _ | refine Below.alloc ?_ (by simp) _ | refine Below.setCell ?_ (by simp) _))⟩
   ·have hdone : Hid (T = 0 \/ (x ≠ 0 -> x % 10 ≠ 0)) := Lib.hid (.inr (fun h => by
     rcases Nat.lt_or_ge x 10 with h2 | h2
     ·omega
     ·have h3 := bts_length t
      rw [hbt.out, Dc.digs_step h2, List.length_append] at h3
      have := Dc.digs_pos (x / 10)
      simp at h3; omega))
    by_cases hxz : x = 0
    ·have q : (t.toList == [48]) = true := by rw [word_beq, hbt.out, hxz]; rfl
     have hz : Hid (v = 0) := Lib.hid (hx0.out.1 hxz)
     clear hxz hbt hst hx0
     go_wp2
     all_goals refine bodyPost_ret (v := .tuple #[.agg #[.bool false, .string ⟨#[48]⟩, .int .i64 0], .int .i64 0]) (by simp [results, Tryz.results98, go_sem]) rfl ⟨made_zero hz.out, (by repeat (first | exact Below.refl _ _ | refine Below.alloc ?_ (by simp) _ | refine Below.setCell ?_ (by simp) _))⟩
    ·have q : (t.toList == [48]) = false := by
      rw [word_beq, hbt.out]
      exact decide_eq_false (fun h => Dc.digs_head hxz (by rw [h]; rfl))
     have hnz : Hid (v ≠ 0) := Lib.hid (fun h => hxz (hx0.out.2 h))
     have hfs : Hid (Dc.strip v S = (x, T)) := Lib.hid (by rw [<- hst.out]; exact Dc.strip_done (hdone.out.imp id (fun h => h hxz)))
     have hsz : Hid (t.size = (Dc.digs x).length) := Lib.hid (by rw [<- bts_length, hbt.out])
     by_cases r1 : 60 < t.size
     ·have d1 : decide (60 < (t.size : Int)) = true := decide_eq_true (by omega)
      have hr : Hid (60 < (Dc.digs x).length \/ 60 < T) := Lib.hid (.inl (by have := hsz.out; omega))
      clear hxz hbt hst hx0 r1
      go_wp2
      all_goals refine bodyPost_ret (v := .tuple #[.agg #[.bool false, .string ⟨#[]⟩, .int .i64 0], .int .i64 7]) (by simp [results, Tryz.results98, go_sem]) rfl ⟨made_range hnz.out hfs.out hr.out, (by repeat (first | exact Below.refl _ _ | refine Below.alloc ?_ (by simp) _ | refine Below.setCell ?_ (by simp) _))⟩
     ·have d1 : decide (60 < (t.size : Int)) = false := decide_eq_false (by omega)
      by_cases r2 : 60 < T
      ·have d2 : decide (60 < (T : Int)) = true := decide_eq_true (by omega)
       have hr : Hid (60 < (Dc.digs x).length \/ 60 < T) := Lib.hid (.inr r2)
       clear hxz hbt hst hx0 r1 r2
       go_wp2
       all_goals refine bodyPost_ret (v := .tuple #[.agg #[.bool false, .string ⟨#[]⟩, .int .i64 0], .int .i64 7]) (by simp [results, Tryz.results98, go_sem]) rfl ⟨made_range hnz.out hfs.out hr.out, (by repeat (first | exact Below.refl _ _ | refine Below.alloc ?_ (by simp) _ | refine Below.setCell ?_ (by simp) _))⟩
      ·have d2 : decide (60 < (T : Int)) = false := decide_eq_false (by omega)
       have hr : Hid (¬ (60 < (Dc.digs x).length \/ 60 < T)) := Lib.hid (by have := hsz.out; omega)
       have htx : Hid (t = str (Dc.digs x)) := Lib.hid (by rw [<- hbt.out, str_bts])
       clear hxz hbt hst hx0 r1 r2
       go_wp2
       all_goals refine bodyPost_ret (v := .tuple #[.agg #[.bool neg, .string t, .int .i64 (T : Int)], .int .i64 0]) (by simp [results, Tryz.results98, go_sem]) rfl ⟨made_good hnz.out hfs.out hr.out htx.out, (by repeat (first | exact Below.refl _ _ | refine Below.alloc ?_ (by simp) _ | refine Below.setCell ?_ (by simp) _))⟩
end Go.Proofs.YthoojcdjjecogaaGreatDoor
