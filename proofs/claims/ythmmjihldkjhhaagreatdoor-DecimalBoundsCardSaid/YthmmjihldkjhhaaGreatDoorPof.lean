/-
  What 'of' returns.
-/
import Derived.Test.YthmmjihldkjhhaaGreatDoorRcheck
import Derived.Test.YthmmjihldkjhhaaGreatDoorShelf
namespace Go.Proofs.YthmmjihldkjhhaaGreatDoor
open Go Go.RowKit

theorem suffix48 (s : ByteArray) : Lib.hasSuffix s.data.toList [48] = decide ((bts s).getLast? = some 48) := by
  rw [Bool.eq_iff_iff, decide_eq_true_iff]
  unfold Lib.hasSuffix bts
  rw [List.isSuffixOf_iff_suffix, List.getLast?_map]
  constructor
  · rintro ⟨m, hm⟩
    rw [← hm, List.getLast?_append]; rfl
  · intro h
    cases hl : s.data.toList.getLast? with
    | none => rw [hl] at h; cases h
    | some a =>
      rw [hl] at h
      have ha : a = 48 := UInt8.toNat_inj.1 (Option.some.inj h)
      obtain ⟨ys, hys⟩ := List.getLast?_eq_some_iff.1 hl
      exact ⟨ys, by rw [hys, ha]⟩
theorem suff_any (s : ByteArray) (hs : s.size ≤ 1000000) (r : Bool) (hr : decide ((bts s).getLast? = some 48) = r) (w : World) : Calls Tryz.prog 46 #[.string s, .string ⟨#[48]⟩] w fun e w' => e = .returned (.bool r) ∧ w = w' :=
  (Tryz.strings_HasSuffix s ⟨#[48]⟩ w (by omega)).mono fun _ _ ⟨he, hw⟩ => ⟨by rw [he, ← hr, ← suffix48], hw.symm⟩
/-- The digits of a number, none of 0. -/
def dz (x : Nat) : List Nat := if x = 0 then [] else Dc.digs x
theorem drop48 : ∀ l : List UInt8, (l.dropWhile (· == 48)).map UInt8.toNat = (l.map UInt8.toNat).dropWhile (· == 48)
  | [] => rfl
  | c :: r => by
    rw [List.map_cons, List.dropWhile_cons, List.dropWhile_cons]
    by_cases h : c = 48
    · subst h; simpa using drop48 r
    · have h2 : (c == 48) = false := beq_eq_false_iff_ne.2 h
      have h3 : (c.toNat == 48) = false := beq_eq_false_iff_ne.2 (fun e => h (UInt8.toNat_inj.1 e))
      rw [h2, h3]; rfl
theorem drop_dz : ∀ l : List Nat, l.all Dc.dig = true → l.dropWhile (· == 48) = dz (Dc.val l)
  | [], _ => rfl
  | c :: r, h => by
    rw [List.dropWhile_cons]
    rw [List.all_cons, Bool.and_eq_true] at h
    by_cases h48 : c = 48
    · subst h48
      rw [Dc.val_cons, Nat.sub_self, Nat.zero_mul, Nat.zero_add]
      simpa using drop_dz r h.2
    · rw [if_neg (by simpa using h48)]
      have hc := Dc.dig_iff.1 h.1
      have hv : Dc.val (c :: r) ≠ 0 := by
        rw [Dc.val_cons]
        have := Nat.mul_pos (show 0 < c - 48 by omega) (Dc.pow10_pos r.length)
        omega
      rw [dz, if_neg hv]
      exact (Dc.digs_unique (by rw [List.all_cons, h.1, h.2]; rfl) (by simp) (.inl (by simpa using h48))).symm
theorem trim_any (s : ByteArray) (hd : (bts s).all Dc.dig = true) (v : Nat) (hv : Dc.val (bts s) = v) (w : World) : Calls Tryz.prog 67 #[.string s, .string ⟨#[48]⟩] w fun e w' => (∃ t : ByteArray, e = .returned (.string t) ∧ bts t = dz v) ∧ w = w' := by
  refine (Tryz.strings_TrimLeft_one s 48 (by decide) w).mono ?_
  rintro e w' ⟨rfl, rfl⟩
  refine ⟨⟨_, rfl, ?_⟩, rfl⟩
  rw [← hv, ← drop_dz _ hd]
  show ((s.data.toList.dropWhile (· == 48)).toArray.toList).map UInt8.toNat = _
  exact drop48 _
theorem dz_length (v : Nat) {l : List Nat} (hd : l.all Dc.dig = true) (hv : Dc.val l = v) : (dz v).length ≤ l.length := by
  rw [← hv, ← drop_dz _ hd]
  exact (List.dropWhile_sublist _).length_le

set_option maxRecDepth 100000 in
set_option maxHeartbeats 4000000 in
theorem pof_any (neg : Bool) (s : ByteArray) (S : Nat) (hs : s.size ≤ 1000) (hS : S ≤ 1000) (hd : (bts s).all Dc.dig = true) (w : World) : Calls Tryz.prog 40 #[.bool neg, .string s, .int .i64 (S : Int)] w fun e w' => e = madeEnd (Dc.can neg (Dc.val (bts s)) S) ∧ Below w.heap.size w w' := by
  obtain ⟨v, hv⟩ : ∃ v, Dc.val (bts s) = v := ⟨_, rfl⟩
  have hbl : Hid ((dz v).length ≤ 1000) := Lib.hid (by have := dz_length v hd hv; rw [bts_length] at this; omega)
  have C : Hid _ := Lib.hid (trim_any s hd v hv)
  rw [hv]
  clear hv hd
  go_enter Tryz.func40, Tryz.ntmps40
  go_wp2_with (go_at_call 67; refine (C.out _).mono ?_; rintro e w4 ⟨⟨t0, rfl, ht0⟩, rfl⟩; have HT0 : Hid _ := Lib.hid ht0; clear ht0)
  go_loop [1, 2] (fun a b => ∃ (x T : Nat) (t : ByteArray), a = .string t ∧ b = .int .i64 (T : Int) ∧ T ≤ 1000 ∧ t.size ≤ 1000 ∧ Hid (bts t = dz x) ∧ Hid (Dc.strip x T = Dc.strip v S) ∧ Hid (x = 0 ↔ v = 0)) (fun _ b => (intOf b).toNat)
  case atStart => exact ⟨v, S, t0, rfl, rfl, hS, by rw [← bts_length, HT0.out]; exact hbl.out, Lib.hid HT0.out, Lib.hid rfl, Lib.hid Iff.rfl⟩
  case round =>
    obtain ⟨x, T, t, rfl, rfl, hT, ht, hbt, hst, hx0⟩ := hrel
    by_cases hT0 : T = 0
    · have dT : decide (0 < T) = false := decide_eq_false (by omega)
      have hdone : Hid (T = 0 ∨ (x ≠ 0 → x % 10 ≠ 0)) := Lib.hid (.inl hT0)
      clear hT0
      by_cases hxz : x = 0
      · have q : t.toList.isEmpty = true := isEmpty_yes (by rw [← bts_length, hbt.out, dz, if_pos hxz]; rfl)
        have hz : Hid (v = 0) := Lib.hid (hx0.out.1 hxz)
        clear hxz hbt hst hx0
        go_wp2
        all_goals refine bodyPost_ret (v := .tuple #[.agg #[.bool false, .string ⟨#[48]⟩, .int .i64 0], .int .i64 0]) (by simp [results, Tryz.results40, go_sem]) rfl ⟨made_zero hz.out, (by repeat (first | exact Below.refl _ _ | refine Below.alloc ?_ (by simp) _ | refine Below.setCell ?_ (by simp) _))⟩
      · have hb : bts t = Dc.digs x := by rw [hbt.out, dz, if_neg hxz]
        have q : t.toList.isEmpty = false := isEmpty_no (by rw [← bts_length, hb]; exact Dc.digs_pos x)
        have hnz : Hid (v ≠ 0) := Lib.hid (fun h => hxz (hx0.out.2 h))
        have hfs : Hid (Dc.strip v S = (x, T)) := Lib.hid (by rw [← hst.out]; exact Dc.strip_done (hdone.out.imp id (fun h => h hxz)))
        have hsz : Hid (t.size = (Dc.digs x).length) := Lib.hid (by rw [← bts_length, hb])
        by_cases r1 : 60 < t.size
        · have d1 : decide (60 < (t.size : Int)) = true := decide_eq_true (by omega)
          have hr : Hid (60 < (Dc.digs x).length ∨ 60 < T) := Lib.hid (.inl (by have := hsz.out; omega))
          clear hxz hbt hb hst hx0 r1
          go_wp2
          all_goals refine bodyPost_ret (v := .tuple #[.agg #[.bool false, .string ⟨#[]⟩, .int .i64 0], .int .i64 7]) (by simp [results, Tryz.results40, go_sem]) rfl ⟨made_range hnz.out hfs.out hr.out, (by repeat (first | exact Below.refl _ _ | refine Below.alloc ?_ (by simp) _ | refine Below.setCell ?_ (by simp) _))⟩
        · have d1 : decide (60 < (t.size : Int)) = false := decide_eq_false (by omega)
          by_cases r2 : 60 < T
          · have d2 : decide (60 < (T : Int)) = true := decide_eq_true (by omega)
            have hr : Hid (60 < (Dc.digs x).length ∨ 60 < T) := Lib.hid (.inr r2)
            clear hxz hbt hb hst hx0 r1 r2
            go_wp2
            all_goals refine bodyPost_ret (v := .tuple #[.agg #[.bool false, .string ⟨#[]⟩, .int .i64 0], .int .i64 7]) (by simp [results, Tryz.results40, go_sem]) rfl ⟨made_range hnz.out hfs.out hr.out, (by repeat (first | exact Below.refl _ _ | refine Below.alloc ?_ (by simp) _ | refine Below.setCell ?_ (by simp) _))⟩
          · have d2 : decide (60 < (T : Int)) = false := decide_eq_false (by omega)
            have hr : Hid (¬ (60 < (Dc.digs x).length ∨ 60 < T)) := Lib.hid (by have := hsz.out; omega)
            have htx : Hid (t = str (Dc.digs x)) := Lib.hid (by rw [← hb, str_bts])
            clear hxz hbt hb hst hx0 r1 r2
            go_wp2
            all_goals refine bodyPost_ret (v := .tuple #[.agg #[.bool neg, .string t, .int .i64 (T : Int)], .int .i64 0]) (by simp [results, Tryz.results40, go_sem]) rfl ⟨made_good hnz.out hfs.out hr.out htx.out, (by repeat (first | exact Below.refl _ _ | refine Below.alloc ?_ (by simp) _ | refine Below.setCell ?_ (by simp) _))⟩
    · have dT : decide (0 < T) = true := decide_eq_true (by omega)
      by_cases hsf : x ≠ 0 ∧ x % 10 = 0
      · have hb : bts t = Dc.digs (x / 10) ++ [48] := by rw [hbt.out, dz, if_neg hsf.1, Dc.digs_step (by omega), hsf.2]
        have CS : Hid _ := Lib.hid (suff_any t (by omega) true (by rw [hb]; simp))
        obtain ⟨L, hL⟩ : ∃ L, t.size = L + 1 := ⟨t.size - 1, by have := bts_length t; rw [hb, List.length_append] at this; simp at this; omega⟩
        have hL2 : L ≤ 1000 := by omega
        obtain ⟨t2, ht2⟩ : ∃ t2, t.extract 0 L = t2 := ⟨_, rfl⟩
        have hb2 : Hid (bts t2 = dz (x / 10)) := Lib.hid (by
          have h4 := bts_length t
          rw [hb, List.length_append, hL] at h4
          rw [← ht2, bts_extract, hb, List.drop_zero, List.take_left' (by simpa using h4), dz, if_neg (by omega)])
        obtain ⟨U, rfl⟩ : ∃ U, T = U + 1 := ⟨T - 1, by omega⟩
        have hs2 : Hid (Dc.strip (x / 10) U = Dc.strip v S) := Lib.hid (by rw [← hst.out, Dc.strip, if_pos hsf.2])
        have hx2 : Hid (x / 10 = 0 ↔ v = 0) := Lib.hid (by rw [← hx0.out]; omega)
        have ht2s : t2.size ≤ 1000 := by rw [← ht2]; simp; omega
        clear hb hbt hst hx0 hsf hT0
        go_wp2_with (go_at_call 46; refine (CS.out _).mono ?_; rintro e w5 ⟨rfl, rfl⟩)
        go_round
        case rel => exact ⟨x / 10, U, t2, rfl, by go_num, by omega, ht2s, hb2, hs2, hx2⟩
        case measure => simp [intOf]
      · have CS : Hid _ := Lib.hid (suff_any t (by omega) false (by
          rw [hbt.out, dz]
          by_cases h0 : x = 0
          · rw [if_pos h0]; rfl
          · rw [if_neg h0, Dc.digs_last]
            exact decide_eq_false (fun h => by have := Option.some.inj h; omega)))
        have hdone : Hid (T = 0 ∨ (x ≠ 0 → x % 10 ≠ 0)) := Lib.hid (.inr (fun h h2 => hsf ⟨h, h2⟩))
        clear hsf hT0
        by_cases hxz : x = 0
        · have q : t.toList.isEmpty = true := isEmpty_yes (by rw [← bts_length, hbt.out, dz, if_pos hxz]; rfl)
          have hz : Hid (v = 0) := Lib.hid (hx0.out.1 hxz)
          clear hxz hbt hst hx0
          go_wp2_with (go_at_call 46; refine (CS.out _).mono ?_; rintro e w5 ⟨rfl, rfl⟩)
          all_goals refine bodyPost_ret (v := .tuple #[.agg #[.bool false, .string ⟨#[48]⟩, .int .i64 0], .int .i64 0]) (by simp [results, Tryz.results40, go_sem]) rfl ⟨made_zero hz.out, (by repeat (first | exact Below.refl _ _ | refine Below.alloc ?_ (by simp) _ | refine Below.setCell ?_ (by simp) _))⟩
        · have hb : bts t = Dc.digs x := by rw [hbt.out, dz, if_neg hxz]
          have q : t.toList.isEmpty = false := isEmpty_no (by rw [← bts_length, hb]; exact Dc.digs_pos x)
          have hnz : Hid (v ≠ 0) := Lib.hid (fun h => hxz (hx0.out.2 h))
          have hfs : Hid (Dc.strip v S = (x, T)) := Lib.hid (by rw [← hst.out]; exact Dc.strip_done (hdone.out.imp id (fun h => h hxz)))
          have hsz : Hid (t.size = (Dc.digs x).length) := Lib.hid (by rw [← bts_length, hb])
          by_cases r1 : 60 < t.size
          · have d1 : decide (60 < (t.size : Int)) = true := decide_eq_true (by omega)
            have hr : Hid (60 < (Dc.digs x).length ∨ 60 < T) := Lib.hid (.inl (by have := hsz.out; omega))
            clear hxz hbt hb hst hx0 r1
            go_wp2_with (go_at_call 46; refine (CS.out _).mono ?_; rintro e w5 ⟨rfl, rfl⟩)
            all_goals refine bodyPost_ret (v := .tuple #[.agg #[.bool false, .string ⟨#[]⟩, .int .i64 0], .int .i64 7]) (by simp [results, Tryz.results40, go_sem]) rfl ⟨made_range hnz.out hfs.out hr.out, (by repeat (first | exact Below.refl _ _ | refine Below.alloc ?_ (by simp) _ | refine Below.setCell ?_ (by simp) _))⟩
          · have d1 : decide (60 < (t.size : Int)) = false := decide_eq_false (by omega)
            by_cases r2 : 60 < T
            · have d2 : decide (60 < (T : Int)) = true := decide_eq_true (by omega)
              have hr : Hid (60 < (Dc.digs x).length ∨ 60 < T) := Lib.hid (.inr r2)
              clear hxz hbt hb hst hx0 r1 r2
              go_wp2_with (go_at_call 46; refine (CS.out _).mono ?_; rintro e w5 ⟨rfl, rfl⟩)
              all_goals refine bodyPost_ret (v := .tuple #[.agg #[.bool false, .string ⟨#[]⟩, .int .i64 0], .int .i64 7]) (by simp [results, Tryz.results40, go_sem]) rfl ⟨made_range hnz.out hfs.out hr.out, (by repeat (first | exact Below.refl _ _ | refine Below.alloc ?_ (by simp) _ | refine Below.setCell ?_ (by simp) _))⟩
            · have d2 : decide (60 < (T : Int)) = false := decide_eq_false (by omega)
              have hr : Hid (¬ (60 < (Dc.digs x).length ∨ 60 < T)) := Lib.hid (by have := hsz.out; omega)
              have htx : Hid (t = str (Dc.digs x)) := Lib.hid (by rw [← hb, str_bts])
              clear hxz hbt hb hst hx0 r1 r2
              go_wp2_with (go_at_call 46; refine (CS.out _).mono ?_; rintro e w5 ⟨rfl, rfl⟩)
              all_goals refine bodyPost_ret (v := .tuple #[.agg #[.bool neg, .string t, .int .i64 (T : Int)], .int .i64 0]) (by simp [results, Tryz.results40, go_sem]) rfl ⟨made_good hnz.out hfs.out hr.out htx.out, (by repeat (first | exact Below.refl _ _ | refine Below.alloc ?_ (by simp) _ | refine Below.setCell ?_ (by simp) _))⟩
end Go.Proofs.YthmmjihldkjhhaaGreatDoor
