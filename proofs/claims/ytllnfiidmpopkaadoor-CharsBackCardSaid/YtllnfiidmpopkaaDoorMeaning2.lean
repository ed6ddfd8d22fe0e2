/-
  What 'meaning' of the program returns behind the number sign and x. Conditions: the program's map of names and its table of ranges, the library's variable for errors.
-/
import Derived.Test.YtllnfiidmpopkaaDoorMeaning
namespace Go.Proofs.YtllnfiidmpopkaaDoor
open Go Go.RowKit

theorem cut_to (k r : ByteArray) (b : UInt8) (h : (bts k).head? = some b.toNat) (hr : bts r = (bts k).tail) (w : World) : Calls Tryd.prog 51 #[.string k, .string ⟨#[b]⟩] w fun e w' => e = .returned (.tuple #[.string r, .bool true]) ∧ w' = w := by
  refine (cut_yes k b h w).mono ?_
  rintro e w' ⟨⟨r', h', rfl⟩, rfl⟩
  have : r' = r := by rw [← str_bts r', ← str_bts r, h', hr]
  subst this
  exact ⟨rfl, rfl⟩
theorem beq_yes {c k : Nat} (h : c = k) : ((c : Int) == (k : Int)) = true := by subst h; simp

set_option maxRecDepth 100000 in
set_option maxHeartbeats 2000000 in
theorem f39_x_0 (k r t : ByteArray) (hk : k.size ≤ 1000000) (hn : nameM (bts k) = none) (hh : (bts k).head? = some (35 : UInt8).toNat) (hr : bts r = (bts k).tail) (hx : (bts r).head? = some (120 : UInt8).toNat) (ht : bts t = (bts r).tail)
    (w : World) (hV : EscVar w) (hs : t.size = 0) : Calls Tryd.prog 39 #[.string k] w fun e w' => Means k e ∧ Below w.heap.size w w' := by
  obtain ⟨bm, es, clock, h1, h2, h3⟩ := hV
  have hl := h3 w h2 k hk
  rw [hn] at hl
  simp only [Option.isSome_none] at hl
  have hM : Hid (charM (bts k) = digM true (bts t)) := Lib.hid (by
    rw [charM_eq, hn, ht, hr]
    rw [hr] at hx
    exact (if_pos hh).trans (if_pos hx))
  have c1 : Hid (∀ w, Calls Tryd.prog 51 #[.string k, .string ⟨#[35]⟩] w fun e w' => e = .returned (.tuple #[.string r, .bool true]) ∧ w = w') := Lib.hid (fun w => (cut_to k r 35 hh hr w).mono fun _ _ h => ⟨h.1, h.2.symm⟩)
  have c2 : Hid (∀ w, Calls Tryd.prog 51 #[.string r, .string ⟨#[120]⟩] w fun e w' => e = .returned (.tuple #[.string t, .bool true]) ∧ w = w') := Lib.hid (fun w => (cut_to r t 120 hx ht w).mono fun _ _ h => ⟨h.1, h.2.symm⟩)
  have htl : (bts t).length = t.size := bts_length t
  have htk : t.size ≤ 1000000 := by
    have e0 : k.size = (bts k).length := (bts_length k).symm
    have e1 : (bts r).length ≤ (bts k).length := by rw [hr, List.length_tail]; omega
    have e2 : (bts t).length ≤ (bts r).length := by rw [ht, List.length_tail]; omega
    omega
  clear h2 h3 hn hh hr hx ht hk
  have tok1 : True := trivial
  have he := isEmpty_yes hs
  have hF : Hid (charM (bts k) = none) := Lib.hid (by rw [hM.out, digM, if_pos (.inl (List.length_eq_zero_iff.1 (by omega)))])
  clear hM hs htl htk
  go_enter Tryd.func39, Tryd.ntmps39
  go_wp2_with (first
    | (go_at_call 51; have _t := tok1; refine (c1.out _).mono ?_; rintro e w2 ⟨rfl, rfl⟩; clear tok1)
    | (go_at_call 51; refine (c2.out _).mono ?_; rintro e w2 ⟨rfl, rfl⟩))
  go_ret2
  exact ⟨Means.no hF.out, Below.refl _ _⟩
set_option maxRecDepth 100000 in
set_option maxHeartbeats 2000000 in
theorem f39_x_20 (k r t : ByteArray) (hk : k.size ≤ 1000000) (hn : nameM (bts k) = none) (hh : (bts k).head? = some (35 : UInt8).toNat) (hr : bts r = (bts k).tail) (hx : (bts r).head? = some (120 : UInt8).toNat) (ht : bts t = (bts r).tail)
    (w : World) (hV : EscVar w) (hs : 20 < t.size) : Calls Tryd.prog 39 #[.string k] w fun e w' => Means k e ∧ Below w.heap.size w w' := by
  obtain ⟨bm, es, clock, h1, h2, h3⟩ := hV
  have hl := h3 w h2 k hk
  rw [hn] at hl
  simp only [Option.isSome_none] at hl
  have hM : Hid (charM (bts k) = digM true (bts t)) := Lib.hid (by
    rw [charM_eq, hn, ht, hr]
    rw [hr] at hx
    exact (if_pos hh).trans (if_pos hx))
  have c1 : Hid (∀ w, Calls Tryd.prog 51 #[.string k, .string ⟨#[35]⟩] w fun e w' => e = .returned (.tuple #[.string r, .bool true]) ∧ w = w') := Lib.hid (fun w => (cut_to k r 35 hh hr w).mono fun _ _ h => ⟨h.1, h.2.symm⟩)
  have c2 : Hid (∀ w, Calls Tryd.prog 51 #[.string r, .string ⟨#[120]⟩] w fun e w' => e = .returned (.tuple #[.string t, .bool true]) ∧ w = w') := Lib.hid (fun w => (cut_to r t 120 hx ht w).mono fun _ _ h => ⟨h.1, h.2.symm⟩)
  have htl : (bts t).length = t.size := bts_length t
  have htk : t.size ≤ 1000000 := by
    have e0 : k.size = (bts k).length := (bts_length k).symm
    have e1 : (bts r).length ≤ (bts k).length := by rw [hr, List.length_tail]; omega
    have e2 : (bts t).length ≤ (bts r).length := by rw [ht, List.length_tail]; omega
    omega
  clear h2 h3 hn hh hr hx ht hk
  have tok1 : True := trivial
  have he := isEmpty_no (show 0 < t.size by omega)
  have hF : Hid (charM (bts k) = none) := Lib.hid (by rw [hM.out, digM, if_pos (.inr (by omega))])
  clear hM htl
  go_enter Tryd.func39, Tryd.ntmps39
  go_wp2_with (first
    | (go_at_call 51; have _t := tok1; refine (c1.out _).mono ?_; rintro e w2 ⟨rfl, rfl⟩; clear tok1)
    | (go_at_call 51; refine (c2.out _).mono ?_; rintro e w2 ⟨rfl, rfl⟩))
  go_ret2
  exact ⟨Means.no hF.out, Below.refl _ _⟩
set_option maxRecDepth 100000 in
set_option maxHeartbeats 4000000 in
theorem f39_x_n (k r t : ByteArray) (hk : k.size ≤ 1000000) (hn : nameM (bts k) = none) (hh : (bts k).head? = some (35 : UInt8).toNat) (hr : bts r = (bts k).tail) (hx : (bts r).head? = some (120 : UInt8).toNat) (ht : bts t = (bts r).tail)
    (w : World) (hV : EscVar w) (hG : Rng w) (hE : ErrVar w) (hs0 : 0 < t.size) (hs1 : t.size ≤ 20) : Calls Tryd.prog 39 #[.string k] w fun e w' => Means k e ∧ Below w.heap.size w w' := by
  obtain ⟨bm, es, clock, h1, h2, h3⟩ := hV
  have hl := h3 w h2 k hk
  rw [hn] at hl
  simp only [Option.isSome_none] at hl
  have hM : Hid (charM (bts k) = digM true (bts t)) := Lib.hid (by
    rw [charM_eq, hn, ht, hr]
    rw [hr] at hx
    exact (if_pos hh).trans (if_pos hx))
  have c1 : Hid (∀ w, Calls Tryd.prog 51 #[.string k, .string ⟨#[35]⟩] w fun e w' => e = .returned (.tuple #[.string r, .bool true]) ∧ w = w') := Lib.hid (fun w => (cut_to k r 35 hh hr w).mono fun _ _ h => ⟨h.1, h.2.symm⟩)
  have c2 : Hid (∀ w, Calls Tryd.prog 51 #[.string r, .string ⟨#[120]⟩] w fun e w' => e = .returned (.tuple #[.string t, .bool true]) ∧ w = w') := Lib.hid (fun w => (cut_to r t 120 hx ht w).mono fun _ _ h => ⟨h.1, h.2.symm⟩)
  have htl : (bts t).length = t.size := bts_length t
  have htk : t.size ≤ 1000000 := by
    have e0 : k.size = (bts k).length := (bts_length k).symm
    have e1 : (bts r).length ≤ (bts k).length := by rw [hr, List.length_tail]; omega
    have e2 : (bts t).length ≤ (bts r).length := by rw [ht, List.length_tail]; omega
    omega
  clear h2 h3 hn hh hr hx ht hk
  have tok1 : True := trivial
  have he := isEmpty_no hs0
  have hM2 : Hid (charM (bts k) = if (bts t).all hexOk then chM (hexV (bts t)) else none) := Lib.hid (by
    rw [hM.out, digM, if_neg (by rw [not_or]; exact ⟨fun h => by rw [h] at htl; simp at htl; omega, by omega⟩)]; rfl)
  clear hM htl
  go_enter Tryd.func39, Tryd.ntmps39
  go_wp2_with (first
    | (go_at_call 51; have _t := tok1; refine (c1.out _).mono ?_; rintro e w2 ⟨rfl, rfl⟩; clear tok1)
    | (go_at_call 51; refine (c2.out _).mono ?_; rintro e w2 ⟨rfl, rfl⟩))
  go_loop [46] (fun i => ∃ j : Nat, j ≤ t.size ∧ i = .int .i64 j ∧ Hid (((bts t).take j).all hexOk = true)) (fun i => t.size - (intOf i).toNat)
  case atStart => exact ⟨0, Nat.zero_le _, rfl, Lib.hid rfl⟩
  case round =>
    obtain ⟨j, hj, rfl, hall⟩ := hrel
    by_cases hlt : j < t.size
    · have hlb : j < (bts t).length := by rw [bts_length]; exact hlt
      obtain ⟨c, hc⟩ : ∃ c, (t[j]'hlt).toNat = c := ⟨_, rfl⟩
      have hcb : (bts t)[j]'hlb = c := by rw [bts_get t j hlt, hc]
      cases hv : hexOk c with
      | true =>
        have hall2 : Hid (((bts t).take (j + 1)).all hexOk = true) := Lib.hid (by rw [List.take_succ_eq_append_getElem hlb, List.all_append, hall.out, hcb]; simp [hv])
        have HV := hv
        simp [hexOk] at HV
        clear hv hall hcb
        rcases HV with (⟨d0, d1⟩ | ⟨d0, d1⟩) | ⟨d0, d1⟩
        · have b1 : decide (48 ≤ (c : Int)) = true := decide_eq_true (by omega)
          have b2 : decide ((c : Int) ≤ 57) = true := decide_eq_true (by omega)
          clear d0 d1
          go_wp2
          go_round
          case rel => exact ⟨j + 1, by omega, by simp, hall2⟩
          case measure => simp [intOf]; omega
        · have b1 : decide (48 ≤ (c : Int)) = true := decide_eq_true (by omega)
          have b2 : decide ((c : Int) ≤ 57) = false := decide_eq_false (by omega)
          have b3 : decide (97 ≤ (c : Int)) = true := decide_eq_true (by omega)
          have b4 : decide ((c : Int) ≤ 102) = true := decide_eq_true (by omega)
          clear d0 d1
          go_wp2
          go_round
          case rel => exact ⟨j + 1, by omega, by simp, hall2⟩
          case measure => simp [intOf]; omega
        · have b1 : decide (48 ≤ (c : Int)) = true := decide_eq_true (by omega)
          have b2 : decide ((c : Int) ≤ 57) = false := decide_eq_false (by omega)
          have b3 : decide (97 ≤ (c : Int)) = false := decide_eq_false (by omega)
          have b5 : decide (65 ≤ (c : Int)) = true := decide_eq_true (by omega)
          have b6 : decide ((c : Int) ≤ 70) = true := decide_eq_true (by omega)
          clear d0 d1
          go_wp2
          go_round
          case rel => exact ⟨j + 1, by omega, by simp, hall2⟩
          case measure => simp [intOf]; omega
      | false =>
        have hF : Hid (charM (bts k) = none) := Lib.hid (by
          rw [hM2.out, if_neg]
          intro h
          have := List.all_eq_true.1 h c (hcb ▸ List.getElem_mem hlb)
          rw [hv] at this; cases this)
        have HV : (c < 48) ∨ (57 < c ∧ c < 65) ∨ (70 < c ∧ c < 97) ∨ (102 < c) := by
          simp [hexOk] at hv
          omega
        clear hv hall hcb hM2
        rcases HV with HV | HV | HV | HV
        · have b1 : decide (48 ≤ (c : Int)) = false := decide_eq_false (by omega)
          have b3 : decide (97 ≤ (c : Int)) = false := decide_eq_false (by omega)
          have b5 : decide (65 ≤ (c : Int)) = false := decide_eq_false (by omega)
          clear HV
          go_wp2
          go_ret2
          exact ⟨Means.no hF.out, Below.refl _ _⟩
        · have b1 : decide (48 ≤ (c : Int)) = true := decide_eq_true (by omega)
          have b2 : decide ((c : Int) ≤ 57) = false := decide_eq_false (by omega)
          have b3 : decide (97 ≤ (c : Int)) = false := decide_eq_false (by omega)
          have b5 : decide (65 ≤ (c : Int)) = false := decide_eq_false (by omega)
          clear HV
          go_wp2
          go_ret2
          exact ⟨Means.no hF.out, Below.refl _ _⟩
        · have b1 : decide (48 ≤ (c : Int)) = true := decide_eq_true (by omega)
          have b2 : decide ((c : Int) ≤ 57) = false := decide_eq_false (by omega)
          have b3 : decide (97 ≤ (c : Int)) = false := decide_eq_false (by omega)
          have b5 : decide (65 ≤ (c : Int)) = true := decide_eq_true (by omega)
          have b6 : decide ((c : Int) ≤ 70) = false := decide_eq_false (by omega)
          clear HV
          go_wp2
          go_ret2
          exact ⟨Means.no hF.out, Below.refl _ _⟩
        · have b1 : decide (48 ≤ (c : Int)) = true := decide_eq_true (by omega)
          have b2 : decide ((c : Int) ≤ 57) = false := decide_eq_false (by omega)
          have b3 : decide (97 ≤ (c : Int)) = true := decide_eq_true (by omega)
          have b4 : decide ((c : Int) ≤ 102) = false := decide_eq_false (by omega)
          have b5 : decide (65 ≤ (c : Int)) = true := decide_eq_true (by omega)
          have b6 : decide ((c : Int) ≤ 70) = false := decide_eq_false (by omega)
          clear HV
          go_wp2
          go_ret2
          exact ⟨Means.no hF.out, Below.refl _ _⟩
    · have hke : (bts t).take j = bts t := List.take_of_length_le (by rw [bts_length]; omega)
      have hok : (bts t).all hexOk = true := by rw [← hke]; exact hall.out
      have hM3 : charM (bts k) = chM (hexV (bts t)) := by rw [hM2.out, if_pos hok]
      have call := f52_16 t (by omega) htk (fun c hc => List.all_eq_true.1 hok c hc) w hE
      obtain ⟨V, hVe⟩ : ∃ V, hexV (bts t) = V := ⟨_, rfl⟩
      rw [hVe] at hM3 call
      clear hM2 hall hke hok hVe
      by_cases hbig : 9223372036854775808 ≤ V
      · have hF : Hid (charM (bts k) = none) := Lib.hid (by rw [hM3, chM, if_neg (by omega)])
        have HC : Hid _ := Lib.hid (call.mono (fun e w' (h : _ ∧ _) => (⟨h.1.elim (fun g => absurd g.1 (by omega)) (fun g => g.2), h.2⟩ : Fails e ∧ Below w.heap.size w w')))
        clear call hM3 hbig
        go_wp2_with (go_at_call 52; refine HC.out.mono ?_; rintro e w3 ⟨⟨n, te, pe, rfl⟩, hb3⟩)
        go_ret2
        exact ⟨Means.no hF.out, hb3⟩
      · have HC : Hid (Calls Tryd.prog 52 #[.string t, .int .i64 16, .int .i64 64] w fun e w' => e = .returned (.tuple #[.int .i64 (V : Int), .nilIface]) ∧ Below w.heap.size w w') := Lib.hid (call.mono (fun e w' h => by
          obtain ⟨h, hb⟩ := h
          rcases h with ⟨_, a, rfl, rfl⟩ | ⟨h, _⟩
          · exact ⟨rfl, hb⟩
          · exact absurd h hbig))
        clear call hbig
        by_cases hmid : 1114111 < V
        · have hF : Hid (charM (bts k) = none) := Lib.hid (by rw [hM3, chM, if_neg (by omega)])
          have d1 : decide (1114111 < (V : Int)) = true := decide_eq_true (by omega)
          clear hM3 hmid
          go_wp2_with (go_at_call 52; refine HC.out.mono ?_; rintro e w3 ⟨rfl, hb3⟩)
          go_ret2
          exact ⟨Means.no hF.out, hb3⟩
        · have hle : V ≤ 1114111 := by omega
          have d1 : decide (1114111 < (V : Int)) = false := decide_eq_false (by omega)
          clear hmid
          cases hva : Ch.valid (V : Int) with
          | false =>
            have hF : Hid (charM (bts k) = none) := Lib.hid (by rw [hM3, chM, if_neg (by rw [hva]; simp)])
            have HVA : Hid _ := Lib.hid hva
            clear hM3 hva
            go_wp2_with (first
              | (go_at_call 52; refine HC.out.mono ?_; rintro e w3 ⟨rfl, hb3⟩; have hG3 := hG.next hb3)
              | (go_at_call 8; refine (f8_any _ _ hG3).mono ?_; rintro e w4 ⟨rfl, hb4⟩; rw [HVA.out]))
            go_ret2
            exact ⟨Means.no hF.out, hb3.trans (hb4.mono hb3.size)⟩
          | true =>
            have hF : Hid (charM (bts k) = some V) := Lib.hid (by rw [hM3, chM, if_pos ⟨hle, hva⟩])
            have HVA : Hid _ := Lib.hid hva
            clear hM3 hva
            go_wp2_with (first
              | (go_at_call 52; refine HC.out.mono ?_; rintro e w3 ⟨rfl, hb3⟩; have hG3 := hG.next hb3)
              | (go_at_call 8; refine (f8_any _ _ hG3).mono ?_; rintro e w4 ⟨rfl, hb4⟩; rw [HVA.out])
              | (go_at_call 45; refine (f45_nil _ hle _).mono ?_; rintro e w5 ⟨⟨g, cap, rfl, hown⟩, hb5⟩; have hcv := (by rw [u8s_i] at hown; exact run_str_own hown)))
            go_ret2
            exact ⟨Means.yes hF.out (strI_nat _), hb3.trans ((hb4.trans (hb5.mono hb4.size)).mono hb3.size)⟩
end Go.Proofs.YtllnfiidmpopkaaDoor
