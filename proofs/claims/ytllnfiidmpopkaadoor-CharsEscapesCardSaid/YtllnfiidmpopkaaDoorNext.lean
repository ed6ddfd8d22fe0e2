/-
  What Next of the reference returns: the character at the beginning of a string, and whether there is one. Condition: none but the size that every string has.
-/
import Derived.Test.YtllnfiidmpopkaaDoorMore
import Derived.Test.YtllnfiidmpopkaaDoorPlain2
import Derived.Deep.QuietTactic
import Derived.BigQuiet
import Derived.WalkSmall
namespace Go.Proofs.YtllnfiidmpopkaaDoor
open Go Go.RowKit
theorem isEmpty_no {s : ByteArray} (h : 0 < s.size) : s.toList.isEmpty = false := by
  rw [ByteArray.toList_eq]
  cases hl : s.data.toList with
  | nil =>
    exfalso
    have h0 : s.data.size = 0 := by rw [← Array.length_toList, hl]; rfl
    have h1 : s.size = 0 := h0
    omega
  | cons a l => rfl
theorem isEmpty_yes {s : ByteArray} (h : s.size = 0) : s.toList.isEmpty = true := by
  rw [ByteArray.toList_eq]
  cases hl : s.data.toList with
  | nil => rfl
  | cons a l =>
    exfalso
    have h0 : s.data.size = s.data.toList.length := Array.length_toList.symm
    rw [hl] at h0
    have h1 : s.size = l.length + 1 := h0
    omega
theorem str_size (l : List Nat) : (str l).size = l.length := by simp [str, ByteArray.size]
theorem bts_inj {s t : ByteArray} (h : bts s = bts t) : s = t := by rw [← str_bts s, h, str_bts]
theorem toList_beq (s t : ByteArray) : (s.toList == t.toList) = decide (bts s = bts t) := by
  rw [Bool.eq_iff_iff]
  simp only [beq_iff_eq, decide_eq_true_eq]
  constructor
  · intro h; rw [ByteArray.toList_eq, ByteArray.toList_eq] at h; unfold bts; rw [h]
  · intro h; rw [bts_inj h]
theorem bts_extract (s : ByteArray) (a b : Nat) : bts (s.extract a b) = ((bts s).take b).drop a := by
  unfold bts
  rw [ByteArray.data_extract, Array.toList_extract]
  simp [List.extract, List.map_drop, List.map_take, List.drop_take]
theorem f41_nat (c : Nat) (hc : c ≤ 1114111) (w : World) :
    Calls Tryd.prog 41 #[.int .i32 c] w fun e w' => (∃ bs : ByteArray, e = .returned (.string bs) ∧ bs = str (Ch.encN c)) ∧ Below w.heap.size w w' :=
  (f41_any c hc w).mono fun _ _ ⟨he, hb⟩ => ⟨⟨_, he, rfl⟩, hb⟩
theorem valid_nat {c : Nat} (h : Ch.valid c = true) : c ≤ 1114111 := by have := (Ch.valid_le h).2; omega
theorem cmp_enc (s : ByteArray) (c k : Nat) (hr : Ch.raw (bts s) = some (c, k)) (hv : Ch.valid c = true) : ((s.extract 0 (str (Ch.encN c)).size).toList == (str (Ch.encN c)).toList) = Ch.good c k := by
  rw [toList_beq, bts_extract, bts_str _ (Ch.encN_lt (valid_nat hv)), str_size, Ch.encN_length, List.drop_zero, Ch.good, hv, Bool.true_and]
  by_cases hk : Ch.lenN c = k
  · have := Ch.take_enc hr hk
    rw [decide_eq_true hk, hk, decide_eq_true this]
  · have := (Ch.take_not_enc hr hk).2
    rw [decide_eq_false hk, decide_eq_false this]
theorem le_enc (s : ByteArray) (c k : Nat) (hr : Ch.raw (bts s) = some (c, k)) : (str (Ch.encN c)).size ≤ s.size := by
  rw [str_size, Ch.encN_length, ← bts_length s]
  by_cases hk : Ch.lenN c = k
  · rw [hk]; exact (Ch.raw_le hr).2.2
  · exact (Ch.take_not_enc hr hk).1

set_option maxRecDepth 100000 in
set_option maxHeartbeats 400000 in
theorem f44_1 (s : ByteArray) (w : World) (hs : s.size ≤ maxLen) (c : Nat) (hr : Ch.raw (bts s) = some (c, 1)) (hv : Ch.valid c = true) :
    Calls Tryd.prog 44 #[.string s] w fun e w' => e = .returned (.tuple #[.int .i32 c, .bool (Ch.good c 1)]) ∧ Below w.heap.size w w' := by
  have hle := le_enc s c 1 hr
  have hcmp := cmp_enc s c 1 hr hv
  have hcm := valid_nat hv
  have hs' := hs
  obtain ⟨hlen, h1, hc⟩ := Ch.raw_1 hr
  rw [bts_length] at hlen
  have h1' : gb s 0 < 128 := h1
  have hc' : c = gb s 0 := hc
  have hl0 : 0 < s.size := by omega
  have e0 := byte_eq hl0
  have u0 : (s[0]'hl0).toNat < 128 := by omega
  obtain rfl : c = (s[0]'hl0).toNat := by omega
  clear h1 h1' hc e0 hc' hlen
  have Hv : Hid _ := Lib.hid hv
  have HC : Hid _ := Lib.hid hcmp
  clear hv hcmp hr
  unfold maxLen at hs
  have hne := isEmpty_no hl0
  go_enter Tryd.func44, Tryd.ntmps44
  go_wp2_with (first | (go_at_call 9; refine (f9_any _ _).mono ?_; rintro e w1 ⟨rfl, rfl⟩; rw [Hv.out]) | (go_at_call 41; refine (f41_nat _ hcm _).mono ?_; rintro e w1 ⟨⟨bs, rfl, hbs⟩, hb⟩; rw [← hbs] at hle; have HB : Hid _ := Lib.hid hbs; clear hbs))
  have d1 : decide ((bs.size : Int) ≤ s.size) = true := by simpa using hle
  go_quiet (fail)
  go_wp2
  go_ret2
  go_light
  exact ⟨ret_ib rfl (by rw [HB.out]; exact HC.out), below_drewN hb _⟩
set_option maxRecDepth 100000 in
set_option maxHeartbeats 400000 in
theorem f44_1_not (s : ByteArray) (w : World) (hs : s.size ≤ maxLen) (c : Nat) (hr : Ch.raw (bts s) = some (c, 1)) (hv : Ch.valid c = false) :
    Calls Tryd.prog 44 #[.string s] w fun e w' => e = .returned (.tuple #[.int .i32 0, .bool false]) ∧ Below w.heap.size w w' := by
  have hs' := hs
  obtain ⟨hlen, h1, hc⟩ := Ch.raw_1 hr
  rw [bts_length] at hlen
  have h1' : gb s 0 < 128 := h1
  have hc' : c = gb s 0 := hc
  have hl0 : 0 < s.size := by omega
  have e0 := byte_eq hl0
  have u0 : (s[0]'hl0).toNat < 128 := by omega
  obtain rfl : c = (s[0]'hl0).toNat := by omega
  clear h1 h1' hc e0 hc' hlen
  have Hv : Hid _ := Lib.hid hv
  clear hv hr
  unfold maxLen at hs
  have hne := isEmpty_no hl0
  go_enter Tryd.func44, Tryd.ntmps44
  go_wp2_with (first | (go_at_call 9; refine (f9_any _ _).mono ?_; rintro e w1 ⟨rfl, rfl⟩; rw [Hv.out]))
  go_ret2
  go_light
  exact ⟨rfl, Below.refl _ _⟩

set_option maxRecDepth 100000 in
set_option maxHeartbeats 400000 in
theorem f44_2 (s : ByteArray) (w : World) (hs : s.size ≤ maxLen) (c : Nat) (hr : Ch.raw (bts s) = some (c, 2)) (hv : Ch.valid c = true) :
    Calls Tryd.prog 44 #[.string s] w fun e w' => e = .returned (.tuple #[.int .i32 c, .bool (Ch.good c 2)]) ∧ Below w.heap.size w w' := by
  have hle := le_enc s c 2 hr
  have hcmp := cmp_enc s c 2 hr hv
  have hcm := valid_nat hv
  have hs' := hs
  obtain ⟨hlen, h1, h2, ht', hc⟩ := Ch.raw_2 hr
  rw [bts_length] at hlen
  have h1' : 192 ≤ gb s 0 := h1
  have h2' : gb s 0 < 224 := h2
  have ht : 128 ≤ gb s 1 ∧ gb s 1 < 192 := ht'
  have hc' : c = (gb s 0 - 192) * 64 + (gb s 1 - 128) := hc
  have hl0 : 0 < s.size := by omega
  have e0 := byte_eq hl0
  have t0 : 192 ≤ (s[0]'hl0).toNat := by omega
  have u0 : (s[0]'hl0).toNat < 224 := by omega
  have hc'' : (c : Int) = (((s[0]'hl0).toNat : Int) - 192) * 64 + ((gb s 1 : Nat) - 128 : Int) := by omega
  have C0 : Hid _ := Lib.hid hc''
  clear e0 hc hc' hc'' h1 h2 ht' h1' h2'
  have Hv : Hid _ := Lib.hid hv
  have HC : Hid _ := Lib.hid hcmp
  clear hv hcmp hr
  unfold maxLen at hs
  have hne := isEmpty_no hl0
  go_enter Tryd.func44, Tryd.ntmps44
  go_wp2_with (first | (go_at_call 56; refine (f56_1_ok _ _ _ (c : Int) (by omega) (by omega) hs' (by omega) ht C0.out).mono ?_; rintro e w1 ⟨rfl, rfl⟩) | (go_at_call 9; refine (f9_any _ _).mono ?_; rintro e w1 ⟨rfl, rfl⟩; rw [Hv.out]) | (go_at_call 41; refine (f41_nat _ hcm _).mono ?_; rintro e w1 ⟨⟨bs, rfl, hbs⟩, hb⟩; rw [← hbs] at hle; have HB : Hid _ := Lib.hid hbs; clear hbs))
  have d1 : decide ((bs.size : Int) ≤ s.size) = true := by simpa using hle
  go_quiet (fail)
  go_wp2
  go_ret2
  go_light
  exact ⟨ret_ib rfl (by rw [HB.out]; exact HC.out), below_drewN hb _⟩
set_option maxRecDepth 100000 in
set_option maxHeartbeats 400000 in
theorem f44_2_not (s : ByteArray) (w : World) (hs : s.size ≤ maxLen) (c : Nat) (hr : Ch.raw (bts s) = some (c, 2)) (hv : Ch.valid c = false) :
    Calls Tryd.prog 44 #[.string s] w fun e w' => e = .returned (.tuple #[.int .i32 0, .bool false]) ∧ Below w.heap.size w w' := by
  have hs' := hs
  obtain ⟨hlen, h1, h2, ht', hc⟩ := Ch.raw_2 hr
  rw [bts_length] at hlen
  have h1' : 192 ≤ gb s 0 := h1
  have h2' : gb s 0 < 224 := h2
  have ht : 128 ≤ gb s 1 ∧ gb s 1 < 192 := ht'
  have hc' : c = (gb s 0 - 192) * 64 + (gb s 1 - 128) := hc
  have hl0 : 0 < s.size := by omega
  have e0 := byte_eq hl0
  have t0 : 192 ≤ (s[0]'hl0).toNat := by omega
  have u0 : (s[0]'hl0).toNat < 224 := by omega
  have hc'' : (c : Int) = (((s[0]'hl0).toNat : Int) - 192) * 64 + ((gb s 1 : Nat) - 128 : Int) := by omega
  have C0 : Hid _ := Lib.hid hc''
  clear e0 hc hc' hc'' h1 h2 ht' h1' h2'
  have Hv : Hid _ := Lib.hid hv
  clear hv hr
  unfold maxLen at hs
  have hne := isEmpty_no hl0
  go_enter Tryd.func44, Tryd.ntmps44
  go_wp2_with (first | (go_at_call 56; refine (f56_1_ok _ _ _ (c : Int) (by omega) (by omega) hs' (by omega) ht C0.out).mono ?_; rintro e w1 ⟨rfl, rfl⟩) | (go_at_call 9; refine (f9_any _ _).mono ?_; rintro e w1 ⟨rfl, rfl⟩; rw [Hv.out]))
  go_ret2
  go_light
  exact ⟨rfl, Below.refl _ _⟩

set_option maxRecDepth 100000 in
set_option maxHeartbeats 400000 in
theorem f44_3 (s : ByteArray) (w : World) (hs : s.size ≤ maxLen) (c : Nat) (hr : Ch.raw (bts s) = some (c, 3)) (hv : Ch.valid c = true) :
    Calls Tryd.prog 44 #[.string s] w fun e w' => e = .returned (.tuple #[.int .i32 c, .bool (Ch.good c 3)]) ∧ Below w.heap.size w w' := by
  have hle := le_enc s c 3 hr
  have hcmp := cmp_enc s c 3 hr hv
  have hcm := valid_nat hv
  have hs' := hs
  obtain ⟨hlen, h1, h2, ht', hc⟩ := Ch.raw_3 hr
  rw [bts_length] at hlen
  have h1' : 224 ≤ gb s 0 := h1
  have h2' : gb s 0 < 240 := h2
  have ht : 128 ≤ gb s 1 ∧ gb s 1 < 192 ∧ 128 ≤ gb s 2 ∧ gb s 2 < 192 := ht'
  have hc' : c = ((gb s 0 - 224) * 64 + (gb s 1 - 128)) * 64 + (gb s 2 - 128) := hc
  have hl0 : 0 < s.size := by omega
  have e0 := byte_eq hl0
  have t0 : 224 ≤ (s[0]'hl0).toNat := by omega
  have u0 : (s[0]'hl0).toNat < 240 := by omega
  have hc'' : (c : Int) = ((((s[0]'hl0).toNat : Int) - 224) * 64 + ((gb s 1 : Nat) - 128 : Int)) * 64 + ((gb s 2 : Nat) - 128 : Int) := by omega
  have C0 : Hid _ := Lib.hid hc''
  clear e0 hc hc' hc'' h1 h2 ht' h1' h2'
  have Hv : Hid _ := Lib.hid hv
  have HC : Hid _ := Lib.hid hcmp
  clear hv hcmp hr
  unfold maxLen at hs
  have hne := isEmpty_no hl0
  go_enter Tryd.func44, Tryd.ntmps44
  go_wp2_with (first | (go_at_call 56; refine (f56_2_ok _ _ _ (c : Int) (by omega) (by omega) hs' (by omega) ht C0.out).mono ?_; rintro e w1 ⟨rfl, rfl⟩) | (go_at_call 9; refine (f9_any _ _).mono ?_; rintro e w1 ⟨rfl, rfl⟩; rw [Hv.out]) | (go_at_call 41; refine (f41_nat _ hcm _).mono ?_; rintro e w1 ⟨⟨bs, rfl, hbs⟩, hb⟩; rw [← hbs] at hle; have HB : Hid _ := Lib.hid hbs; clear hbs))
  have d1 : decide ((bs.size : Int) ≤ s.size) = true := by simpa using hle
  go_quiet (fail)
  go_wp2
  go_ret2
  go_light
  exact ⟨ret_ib rfl (by rw [HB.out]; exact HC.out), below_drewN hb _⟩
set_option maxRecDepth 100000 in
set_option maxHeartbeats 400000 in
theorem f44_3_not (s : ByteArray) (w : World) (hs : s.size ≤ maxLen) (c : Nat) (hr : Ch.raw (bts s) = some (c, 3)) (hv : Ch.valid c = false) :
    Calls Tryd.prog 44 #[.string s] w fun e w' => e = .returned (.tuple #[.int .i32 0, .bool false]) ∧ Below w.heap.size w w' := by
  have hs' := hs
  obtain ⟨hlen, h1, h2, ht', hc⟩ := Ch.raw_3 hr
  rw [bts_length] at hlen
  have h1' : 224 ≤ gb s 0 := h1
  have h2' : gb s 0 < 240 := h2
  have ht : 128 ≤ gb s 1 ∧ gb s 1 < 192 ∧ 128 ≤ gb s 2 ∧ gb s 2 < 192 := ht'
  have hc' : c = ((gb s 0 - 224) * 64 + (gb s 1 - 128)) * 64 + (gb s 2 - 128) := hc
  have hl0 : 0 < s.size := by omega
  have e0 := byte_eq hl0
  have t0 : 224 ≤ (s[0]'hl0).toNat := by omega
  have u0 : (s[0]'hl0).toNat < 240 := by omega
  have hc'' : (c : Int) = ((((s[0]'hl0).toNat : Int) - 224) * 64 + ((gb s 1 : Nat) - 128 : Int)) * 64 + ((gb s 2 : Nat) - 128 : Int) := by omega
  have C0 : Hid _ := Lib.hid hc''
  clear e0 hc hc' hc'' h1 h2 ht' h1' h2'
  have Hv : Hid _ := Lib.hid hv
  clear hv hr
  unfold maxLen at hs
  have hne := isEmpty_no hl0
  go_enter Tryd.func44, Tryd.ntmps44
  go_wp2_with (first | (go_at_call 56; refine (f56_2_ok _ _ _ (c : Int) (by omega) (by omega) hs' (by omega) ht C0.out).mono ?_; rintro e w1 ⟨rfl, rfl⟩) | (go_at_call 9; refine (f9_any _ _).mono ?_; rintro e w1 ⟨rfl, rfl⟩; rw [Hv.out]))
  go_ret2
  go_light
  exact ⟨rfl, Below.refl _ _⟩

set_option maxRecDepth 100000 in
set_option maxHeartbeats 400000 in
theorem f44_4 (s : ByteArray) (w : World) (hs : s.size ≤ maxLen) (c : Nat) (hr : Ch.raw (bts s) = some (c, 4)) (hv : Ch.valid c = true) :
    Calls Tryd.prog 44 #[.string s] w fun e w' => e = .returned (.tuple #[.int .i32 c, .bool (Ch.good c 4)]) ∧ Below w.heap.size w w' := by
  have hle := le_enc s c 4 hr
  have hcmp := cmp_enc s c 4 hr hv
  have hcm := valid_nat hv
  have hs' := hs
  obtain ⟨hlen, h1, h2, ht', hc⟩ := Ch.raw_4 hr
  rw [bts_length] at hlen
  have h1' : 240 ≤ gb s 0 := h1
  have h2' : gb s 0 < 248 := h2
  have ht : 128 ≤ gb s 1 ∧ gb s 1 < 192 ∧ 128 ≤ gb s 2 ∧ gb s 2 < 192 ∧ 128 ≤ gb s 3 ∧ gb s 3 < 192 := ht'
  have hc' : c = (((gb s 0 - 240) * 64 + (gb s 1 - 128)) * 64 + (gb s 2 - 128)) * 64 + (gb s 3 - 128) := hc
  have hl0 : 0 < s.size := by omega
  have e0 := byte_eq hl0
  have t0 : 240 ≤ (s[0]'hl0).toNat := by omega
  have u0 : (s[0]'hl0).toNat < 248 := by omega
  have hc'' : (c : Int) = (((((s[0]'hl0).toNat : Int) - 240) * 64 + ((gb s 1 : Nat) - 128 : Int)) * 64 + ((gb s 2 : Nat) - 128 : Int)) * 64 + ((gb s 3 : Nat) - 128 : Int) := by omega
  have C0 : Hid _ := Lib.hid hc''
  clear e0 hc hc' hc'' h1 h2 ht' h1' h2'
  have Hv : Hid _ := Lib.hid hv
  have HC : Hid _ := Lib.hid hcmp
  clear hv hcmp hr
  unfold maxLen at hs
  have hne := isEmpty_no hl0
  go_enter Tryd.func44, Tryd.ntmps44
  go_wp2_with (first | (go_at_call 56; refine (f56_3_ok _ _ _ (c : Int) (by omega) (by omega) hs' (by omega) ht C0.out).mono ?_; rintro e w1 ⟨rfl, rfl⟩) | (go_at_call 9; refine (f9_any _ _).mono ?_; rintro e w1 ⟨rfl, rfl⟩; rw [Hv.out]) | (go_at_call 41; refine (f41_nat _ hcm _).mono ?_; rintro e w1 ⟨⟨bs, rfl, hbs⟩, hb⟩; rw [← hbs] at hle; have HB : Hid _ := Lib.hid hbs; clear hbs))
  have d1 : decide ((bs.size : Int) ≤ s.size) = true := by simpa using hle
  go_quiet (fail)
  go_wp2
  go_ret2
  go_light
  exact ⟨ret_ib rfl (by rw [HB.out]; exact HC.out), below_drewN hb _⟩
set_option maxRecDepth 100000 in
set_option maxHeartbeats 400000 in
theorem f44_4_not (s : ByteArray) (w : World) (hs : s.size ≤ maxLen) (c : Nat) (hr : Ch.raw (bts s) = some (c, 4)) (hv : Ch.valid c = false) :
    Calls Tryd.prog 44 #[.string s] w fun e w' => e = .returned (.tuple #[.int .i32 0, .bool false]) ∧ Below w.heap.size w w' := by
  have hs' := hs
  obtain ⟨hlen, h1, h2, ht', hc⟩ := Ch.raw_4 hr
  rw [bts_length] at hlen
  have h1' : 240 ≤ gb s 0 := h1
  have h2' : gb s 0 < 248 := h2
  have ht : 128 ≤ gb s 1 ∧ gb s 1 < 192 ∧ 128 ≤ gb s 2 ∧ gb s 2 < 192 ∧ 128 ≤ gb s 3 ∧ gb s 3 < 192 := ht'
  have hc' : c = (((gb s 0 - 240) * 64 + (gb s 1 - 128)) * 64 + (gb s 2 - 128)) * 64 + (gb s 3 - 128) := hc
  have hl0 : 0 < s.size := by omega
  have e0 := byte_eq hl0
  have t0 : 240 ≤ (s[0]'hl0).toNat := by omega
  have u0 : (s[0]'hl0).toNat < 248 := by omega
  have hc'' : (c : Int) = (((((s[0]'hl0).toNat : Int) - 240) * 64 + ((gb s 1 : Nat) - 128 : Int)) * 64 + ((gb s 2 : Nat) - 128 : Int)) * 64 + ((gb s 3 : Nat) - 128 : Int) := by omega
  have C0 : Hid _ := Lib.hid hc''
  clear e0 hc hc' hc'' h1 h2 ht' h1' h2'
  have Hv : Hid _ := Lib.hid hv
  clear hv hr
  unfold maxLen at hs
  have hne := isEmpty_no hl0
  go_enter Tryd.func44, Tryd.ntmps44
  go_wp2_with (first | (go_at_call 56; refine (f56_3_ok _ _ _ (c : Int) (by omega) (by omega) hs' (by omega) ht C0.out).mono ?_; rintro e w1 ⟨rfl, rfl⟩) | (go_at_call 9; refine (f9_any _ _).mono ?_; rintro e w1 ⟨rfl, rfl⟩; rw [Hv.out]))
  go_ret2
  go_light
  exact ⟨rfl, Below.refl _ _⟩

set_option maxRecDepth 100000 in
set_option maxHeartbeats 400000 in
theorem f44_zero (s : ByteArray) (w : World) (h0 : s.size = 0) :
    Calls Tryd.prog 44 #[.string s] w fun e w' => e = .returned (.tuple #[.int .i32 0, .bool false]) ∧ Below w.heap.size w w' := by
  have hne := isEmpty_yes h0
  go_enter Tryd.func44, Tryd.ntmps44
  go_wp2
  go_ret2
  exact ⟨rfl, Below.refl _ _⟩
set_option maxRecDepth 100000 in
set_option maxHeartbeats 400000 in
theorem f44_low (s : ByteArray) (w : World) (hl0 : 0 < s.size) (h1 : 128 ≤ gb s 0) (h2 : gb s 0 < 192) :
    Calls Tryd.prog 44 #[.string s] w fun e w' => e = .returned (.tuple #[.int .i32 0, .bool false]) ∧ Below w.heap.size w w' := by
  have e0 := byte_eq hl0
  have t0 : 128 ≤ (s[0]'hl0).toNat := by omega
  have u0 : (s[0]'hl0).toNat < 192 := by omega
  clear e0 h1
  have hne := isEmpty_no hl0
  go_enter Tryd.func44, Tryd.ntmps44
  go_wp2
  go_ret2
  exact ⟨rfl, Below.refl _ _⟩
set_option maxRecDepth 100000 in
set_option maxHeartbeats 400000 in
theorem f44_high (s : ByteArray) (w : World) (hl0 : 0 < s.size) (h1 : 248 ≤ gb s 0) :
    Calls Tryd.prog 44 #[.string s] w fun e w' => e = .returned (.tuple #[.int .i32 0, .bool false]) ∧ Below w.heap.size w w' := by
  have e0 := byte_eq hl0
  have t0 : 248 ≤ (s[0]'hl0).toNat := by omega
  clear e0 h1
  have hne := isEmpty_no hl0
  go_enter Tryd.func44, Tryd.ntmps44
  go_wp2
  go_ret2
  exact ⟨rfl, Below.refl _ _⟩
set_option maxRecDepth 100000 in
set_option maxHeartbeats 400000 in
theorem f44_2_no (s : ByteArray) (w : World) (hs : s.size ≤ maxLen) (hl0 : 0 < s.size) (h1 : 192 ≤ gb s 0) (h2 : gb s 0 < 224) (hno : ¬ (2 ≤ s.size ∧ 128 ≤ gb s 1 ∧ gb s 1 < 192)) :
    Calls Tryd.prog 44 #[.string s] w fun e w' => e = .returned (.tuple #[.int .i32 0, .bool false]) ∧ Below w.heap.size w w' := by
  have e0 := byte_eq hl0
  have hs' := hs
  have t0 : 192 ≤ (s[0]'hl0).toNat := by omega
  have u0 : (s[0]'hl0).toNat < 224 := by omega
  have HN : Hid _ := Lib.hid hno
  clear e0 h1 h2 hno
  unfold maxLen at hs
  have hne := isEmpty_no hl0
  go_enter Tryd.func44, Tryd.ntmps44
  go_wp2_with (go_at_call 56; refine (f56_1_no _ _ _ (by omega) (by omega) hs' HN.out).mono ?_; rintro e w1 ⟨rfl, rfl⟩)
  go_ret2
  exact ⟨rfl, Below.refl _ _⟩
set_option maxRecDepth 100000 in
set_option maxHeartbeats 400000 in
theorem f44_3_no (s : ByteArray) (w : World) (hs : s.size ≤ maxLen) (hl0 : 0 < s.size) (h1 : 224 ≤ gb s 0) (h2 : gb s 0 < 240) (hno : ¬ (3 ≤ s.size ∧ 128 ≤ gb s 1 ∧ gb s 1 < 192 ∧ 128 ≤ gb s 2 ∧ gb s 2 < 192)) :
    Calls Tryd.prog 44 #[.string s] w fun e w' => e = .returned (.tuple #[.int .i32 0, .bool false]) ∧ Below w.heap.size w w' := by
  have e0 := byte_eq hl0
  have hs' := hs
  have t0 : 224 ≤ (s[0]'hl0).toNat := by omega
  have u0 : (s[0]'hl0).toNat < 240 := by omega
  have HN : Hid _ := Lib.hid hno
  clear e0 h1 h2 hno
  unfold maxLen at hs
  have hne := isEmpty_no hl0
  go_enter Tryd.func44, Tryd.ntmps44
  go_wp2_with (go_at_call 56; refine (f56_2_no _ _ _ (by omega) (by omega) hs' HN.out).mono ?_; rintro e w1 ⟨rfl, rfl⟩)
  go_ret2
  exact ⟨rfl, Below.refl _ _⟩
set_option maxRecDepth 100000 in
set_option maxHeartbeats 400000 in
theorem f44_4_no (s : ByteArray) (w : World) (hs : s.size ≤ maxLen) (hl0 : 0 < s.size) (h1 : 240 ≤ gb s 0) (h2 : gb s 0 < 248) (hno : ¬ (4 ≤ s.size ∧ 128 ≤ gb s 1 ∧ gb s 1 < 192 ∧ 128 ≤ gb s 2 ∧ gb s 2 < 192 ∧ 128 ≤ gb s 3 ∧ gb s 3 < 192)) :
    Calls Tryd.prog 44 #[.string s] w fun e w' => e = .returned (.tuple #[.int .i32 0, .bool false]) ∧ Below w.heap.size w w' := by
  have e0 := byte_eq hl0
  have hs' := hs
  have t0 : 240 ≤ (s[0]'hl0).toNat := by omega
  have u0 : (s[0]'hl0).toNat < 248 := by omega
  have HN : Hid _ := Lib.hid hno
  clear e0 h1 h2 hno
  unfold maxLen at hs
  have hne := isEmpty_no hl0
  go_enter Tryd.func44, Tryd.ntmps44
  go_wp2_with (go_at_call 56; refine (f56_3_no _ _ _ (by omega) (by omega) hs' HN.out).mono ?_; rintro e w1 ⟨rfl, rfl⟩)
  go_ret2
  exact ⟨rfl, Below.refl _ _⟩

theorem f44_some (s : ByteArray) (w : World) (hs : s.size ≤ maxLen) (c n : Nat) (hd : Ch.dec (bts s) = some (c, n)) :
    Calls Tryd.prog 44 #[.string s] w fun e w' => e = .returned (.tuple #[.int .i32 c, .bool true]) ∧ Below w.heap.size w w' := by
  obtain ⟨hr, hv, hn⟩ := Ch.dec_some hd
  have hg : Ch.good c n = true := by rw [Ch.good, hv, Bool.true_and, decide_eq_true hn]
  obtain ⟨h1, h4, _⟩ := Ch.raw_le hr
  obtain rfl | rfl | rfl | rfl : n = 1 ∨ n = 2 ∨ n = 3 ∨ n = 4 := by omega
  · have := f44_1 s w hs c hr hv; rwa [hg] at this
  · have := f44_2 s w hs c hr hv; rwa [hg] at this
  · have := f44_3 s w hs c hr hv; rwa [hg] at this
  · have := f44_4 s w hs c hr hv; rwa [hg] at this
theorem f44_none (s : ByteArray) (w : World) (hs : s.size ≤ maxLen) (hd : Ch.dec (bts s) = none) :
    Calls Tryd.prog 44 #[.string s] w fun e w' => (∃ x : Int, e = .returned (.tuple #[.int .i32 x, .bool false])) ∧ Below w.heap.size w w' := by
  have fin : ∀ x : Int, Calls Tryd.prog 44 #[.string s] w (fun e w' => e = .returned (.tuple #[.int .i32 x, .bool false]) ∧ Below w.heap.size w w') → Calls Tryd.prog 44 #[.string s] w fun e w' => (∃ x : Int, e = .returned (.tuple #[.int .i32 x, .bool false])) ∧ Below w.heap.size w w' :=
    fun x h => h.mono fun _ _ ⟨he, hb⟩ => ⟨⟨x, he⟩, hb⟩
  cases hr : Ch.raw (bts s) with
  | none =>
    refine fin 0 ?_
    rcases Ch.raw_none hr with h0 | ⟨hl, ⟨h1, h2⟩ | h1 | ⟨h1, h2, h3⟩ | ⟨h1, h2, h3⟩ | ⟨h1, h2, h3⟩⟩
    · exact f44_zero s w (by rw [← bts_length]; exact h0)
    all_goals rw [bts_length] at hl
    · exact f44_low s w (by omega) h1 h2
    · exact f44_high s w (by omega) h1
    all_goals rw [bts_length] at h3
    · exact f44_2_no s w hs (by omega) h1 h2 h3
    · exact f44_3_no s w hs (by omega) h1 h2 h3
    · exact f44_4_no s w hs (by omega) h1 h2 h3
  | some p =>
    obtain ⟨c, n⟩ := p
    have hg : Ch.good c n = false := by
      cases hg : Ch.good c n
      · rfl
      · unfold Ch.dec at hd; rw [hr] at hd; simp only [hg, if_true] at hd; cases hd
    obtain ⟨h1, h4, _⟩ := Ch.raw_le hr
    cases hv : Ch.valid c
    · refine fin 0 ?_
      obtain rfl | rfl | rfl | rfl : n = 1 ∨ n = 2 ∨ n = 3 ∨ n = 4 := by omega
      · exact f44_1_not s w hs c hr hv
      · exact f44_2_not s w hs c hr hv
      · exact f44_3_not s w hs c hr hv
      · exact f44_4_not s w hs c hr hv
    · refine fin c ?_
      obtain rfl | rfl | rfl | rfl : n = 1 ∨ n = 2 ∨ n = 3 ∨ n = 4 := by omega
      · have := f44_1 s w hs c hr hv; rwa [hg] at this
      · have := f44_2 s w hs c hr hv; rwa [hg] at this
      · have := f44_3 s w hs c hr hv; rwa [hg] at this
      · have := f44_4 s w hs c hr hv; rwa [hg] at this
end Go.Proofs.YtllnfiidmpopkaaDoor
