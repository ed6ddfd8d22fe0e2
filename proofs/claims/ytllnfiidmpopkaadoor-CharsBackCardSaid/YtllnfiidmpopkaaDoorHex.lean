/-
  What the library's ParseUint returns in base 16 where every byte is a digit of that base.
-/
import Derived.Test.YtllnfiidmpopkaaDoorSqueeze
import Derived.Test.YtllnfiidmpopkaaDoorShelf
namespace Go.Proofs.YtllnfiidmpopkaaDoor
open Go Go.RowKit

/-- A digit of base 16. -/
def hexOk (c : Nat) : Bool := decide (48 ≤ c ∧ c ≤ 57) || decide (97 ≤ c ∧ c ≤ 102) || decide (65 ≤ c ∧ c ≤ 70)
/-- Its value. -/
def hexD (c : Nat) : Nat := if c ≤ 57 then c - 48 else if 97 ≤ c then c - 87 else c - 55
/-- The value of a row of digits. -/
def hexV (l : List Nat) : Nat := l.foldl (fun a c => a * 16 + hexD c) 0
theorem hexD_lt {c : Nat} (h : hexOk c = true) : hexD c < 16 := by
  simp [hexOk] at h
  unfold hexD; split
  · omega
  · split <;> omega
theorem hex_grows (l : List Nat) (a : Nat) : a ≤ l.foldl (fun a c => a * 16 + hexD c) a := by
  induction l generalizing a with
  | nil => exact Nat.le_refl _
  | cons c l ih => rw [List.foldl_cons]; have := ih (a * 16 + hexD c); omega
theorem hexV_take (l : List Nat) (k : Nat) : hexV (l.take k) ≤ hexV l := by
  have h : hexV l = (l.drop k).foldl (fun a c => a * 16 + hexD c) (hexV (l.take k)) := by
    rw [hexV, hexV, ← List.foldl_append, List.take_append_drop]
  rw [h]; exact hex_grows _ _
theorem hexV_succ (l : List Nat) (k : Nat) (h : k < l.length) : hexV (l.take (k + 1)) = hexV (l.take k) * 16 + hexD l[k] := by
  rw [hexV, List.take_succ_eq_append_getElem h, List.foldl_append]; rfl

theorem low_up {c : Nat} (h1 : 65 ≤ c) (h2 : c ≤ 70) : bits .or .u8 (c : Int) 32 = (c : Int) + 32 := by
  have : c = 65 ∨ c = 66 ∨ c = 67 ∨ c = 68 ∨ c = 69 ∨ c = 70 := by omega
  rcases this with rfl | rfl | rfl | rfl | rfl | rfl <;> decide
theorem low_low {c : Nat} (h1 : 97 ≤ c) (h2 : c ≤ 102) : bits .or .u8 (c : Int) 32 = (c : Int) := by
  have : c = 97 ∨ c = 98 ∨ c = 99 ∨ c = 100 ∨ c = 101 ∨ c = 102 := by omega
  rcases this with rfl | rfl | rfl | rfl | rfl | rfl <;> decide

set_option maxHeartbeats 4000000 in
set_option maxRecDepth 100000 in
theorem f72_16 (t : ByteArray) (hne : t.size ≠ 0) (hmax : t.size ≤ 1000000) (hok : ∀ c ∈ bts t, hexOk c = true) (w : World) :
    Calls Tryd.prog 72 #[.string t, .int .i64 16, .int .i64 64] w fun e w' => ((hexV (bts t) < 18446744073709551616 ∧ ∃ a : Int, a = (hexV (bts t) : Nat) ∧ e = .returned (.tuple #[.int .u64 a, .nilIface])) ∨
      (18446744073709551616 ≤ hexV (bts t) ∧ e = .returned (.tuple #[.int .u64 18446744073709551615, .iface 95 (.int .i64 1)]))) ∧ Below w.heap.size w w' := by
  have hemp := isEmpty_no (Nat.pos_of_ne_zero hne)
  obtain ⟨cap, w1, hcv, hrow, hb1⟩ := bytes_row w t
  have HOK : Hid _ := Lib.hid hok
  clear hok hne
  have hmv : IntKind.u64.wrap (IntKind.u64.wrap 18446744073709551616 - 1) = 18446744073709551615 := by
    rw [IntKind.wrap_u64, IntKind.wrap_u64]
    decide
  go_enter Tryd.func72, Tryd.ntmps72
  go_wp2
  go_loop [12, 13, 101] (fun vu vn vi => ∃ (k : Nat) (a : Int), vu = .bool false ∧ vn = .int .u64 a ∧ vi = .int .i64 k ∧ k ≤ t.size ∧ 0 ≤ a ∧ a < 18446744073709551616 ∧ Hid (a = (hexV ((bts t).take k) : Nat)))
    (fun _ _ vi => t.size - (intOf vi).toNat)
  case atStart => exact ⟨0, 0, rfl, rfl, rfl, by omega, by omega, by omega, Lib.hid rfl⟩
  case round =>
    obtain ⟨k, a, rfl, rfl, rfl, hk, a0, a1, ha⟩ := hrel
    by_cases hkn : k < t.size
    · have hlb : k < (bts t).length := by rw [bts_length]; exact hkn
      obtain ⟨c, hc⟩ : ∃ c, (bts t)[k]'hlb = c := ⟨_, rfl⟩
      have hcell := hrow.at hlb
      have hgd : (bts t).getD k 0 = c := by rw [← hc]; simp [List.getD_eq_getElem?_getD, hlb]
      rw [hgd] at hcell
      have hh : hexOk c = true := HOK.out c (hc ▸ List.getElem_mem hlb)
      have hsucc := hexV_succ (bts t) k hlb
      rw [hc] at hsucc
      by_cases hcut : 1152921504606846976 ≤ a
      · have hbig : Hid (18446744073709551616 ≤ hexV (bts t)) := Lib.hid (by have := hexV_take (bts t) (k + 1); have := ha.out; omega)
        have HC : Hid _ := Lib.hid hc
        have HA : Hid _ := Lib.hid ha
        clear hc ha hsucc hgd
        simp [hexOk] at hh
        rcases hh with (⟨d0, d1⟩ | ⟨d0, d1⟩) | ⟨d0, d1⟩
        · go_wp2
          go_ret2
          go_light
          exact ⟨.inr ⟨hbig.out, rfl⟩, hb1⟩
        · have hl := low_low d0 d1
          go_wp2_with (go_at_call 87; refine (Tryd.internal_strconv_lower _ _).mono ?_; rintro e w' ⟨rfl, rfl⟩)
          go_ret2
          go_light
          exact ⟨.inr ⟨hbig.out, rfl⟩, hb1⟩
        · have hl := low_up d0 d1
          go_wp2_with (go_at_call 87; refine (Tryd.internal_strconv_lower _ _).mono ?_; rintro e w' ⟨rfl, rfl⟩)
          go_ret2
          go_light
          exact ⟨.inr ⟨hbig.out, rfl⟩, hb1⟩
      · have hcut2 : a < 1152921504606846976 := by omega
        simp [hexOk] at hh
        rcases hh with (⟨d0, d1⟩ | ⟨d0, d1⟩) | ⟨d0, d1⟩
        · have hnext : Hid (a * 16 + ((c : Int) - 48) = (hexV ((bts t).take (k + 1)) : Nat)) := Lib.hid (by have := ha.out; rw [hsucc, hexD, if_pos (by omega)]; omega)
          have HA : Hid _ := Lib.hid ha
          clear hc ha hsucc hgd hcut
          go_wp2
          go_round
          case rel => exact ⟨k + 1, a * 16 + ((c : Int) - 48), rfl, by simp, by simp, by omega, by omega, by omega, hnext⟩
          case measure => simp [intOf]; omega
        · have hl := low_low d0 d1
          have hnext : Hid (a * 16 + ((c : Int) - 97 + 10) = (hexV ((bts t).take (k + 1)) : Nat)) := Lib.hid (by have := ha.out; rw [hsucc, hexD, if_neg (by omega), if_pos (by omega)]; omega)
          have HA : Hid _ := Lib.hid ha
          clear hc ha hsucc hgd hcut
          go_wp2_with (go_at_call 87; refine (Tryd.internal_strconv_lower _ _).mono ?_; rintro e w' ⟨rfl, rfl⟩)
          go_round
          case rel => exact ⟨k + 1, a * 16 + ((c : Int) - 97 + 10), rfl, by simp, by simp, by omega, by omega, by omega, hnext⟩
          case measure => simp [intOf]; omega
        · have hl := low_up d0 d1
          have hnext : Hid (a * 16 + ((c : Int) + 32 - 97 + 10) = (hexV ((bts t).take (k + 1)) : Nat)) := Lib.hid (by have := ha.out; rw [hsucc, hexD, if_neg (by omega), if_neg (by omega)]; omega)
          have HA : Hid _ := Lib.hid ha
          clear hc ha hsucc hgd hcut
          go_wp2_with (go_at_call 87; refine (Tryd.internal_strconv_lower _ _).mono ?_; rintro e w' ⟨rfl, rfl⟩)
          go_round
          case rel => exact ⟨k + 1, a * 16 + ((c : Int) + 32 - 97 + 10), rfl, by simp, by simp, by omega, by omega, by omega, hnext⟩
          case measure => simp [intOf]; omega
    · have hke : (bts t).take k = bts t := List.take_of_length_le (by rw [bts_length]; omega)
      rw [hke] at ha
      have HA : Hid _ := Lib.hid ha
      clear ha hke
      go_wp2
      go_ret2
      go_light
      first
        | exact ⟨.inl ⟨by have := HA.out.out; omega, by rw [← HA.out.out] <;> rfl⟩, hb1⟩
        | exact ⟨.inl ⟨by have := HA.out.out; omega, by rw [HA.out.out]⟩, hb1⟩
        | exact ⟨.inl ⟨by have := HA.out.out; omega, HA.out.out⟩, hb1⟩
        | (trace_state; exact ⟨.inl ⟨by have := HA.out.out; omega, trivial⟩, hb1⟩)
end Go.Proofs.YtllnfiidmpopkaaDoor
