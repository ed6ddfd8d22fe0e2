/-
  What Encode of the program and of the reference return. Conditions: at most 200000 characters; the program's table of ranges.
-/
import Derived.Test.YtllnfiidmpopkaaDoorRefDecode
import Derived.Lib.AppendStr
namespace Go.Proofs.YtllnfiidmpopkaaDoor
open Go Go.RowKit

/-- A slice value that holds characters, in memory that nobody writes below the heap's size. -/
def Reads32 (w : World) (v : Value) (zs : List Int) : Prop :=
  ∃ b off cap, v = .slice (some ⟨b, off, none⟩) zs.length cap ∧ b < w.heap.size ∧ ∀ j, j < zs.length → w.cell? ⟨b, off + j, none⟩ = some (.int .i32 (zs.getD j 0))
theorem Reads32.below {w w1 : World} {v : Value} {zs : List Int} (h : Reads32 w v zs) (hb : Below w.heap.size w w1) : Reads32 w1 v zs := by
  obtain ⟨b, off, cap, e, hlt, hc⟩ := h
  exact ⟨b, off, cap, e, Nat.lt_of_lt_of_le hlt hb.size, fun j hj => (hb.cell (p := ⟨b, off + j, none⟩) hlt).trans (hc j hj)⟩
/-- The bytes of characters. -/
def encAll (zs : List Int) : List Nat := zs.flatMap fun z => Ch.encN z.toNat
theorem encAll_length (zs : List Int) : (encAll zs).length ≤ 4 * zs.length := by
  induction zs with
  | nil => simp [encAll]
  | cons z zs ih =>
    have h : encAll (z :: zs) = Ch.encN z.toNat ++ encAll zs := rfl
    rw [h, List.length_append, Ch.encN_length, List.length_cons]
    have := Ch.lenN_pos z.toNat
    omega
theorem encAll_succ (zs : List Int) (k : Nat) (h : k < zs.length) (n : Nat) (hn : zs.getD k 0 = n) : encAll (zs.take (k + 1)) = encAll (zs.take k) ++ Ch.encN n := by
  have e : zs[k] = (n : Int) := by rw [← hn]; simp [List.getD_eq_getElem?_getD, h]
  rw [List.take_succ_eq_append_getElem h, e]
  simp [encAll]
theorem u8s_i (l : List Nat) : u8s l = u8i (l.map fun n : Nat => (n : Int)) := (u8i_nat l).symm

set_option maxRecDepth 100000 in
set_option maxHeartbeats 1000000 in
theorem f26_some (v : Value) (zs : List Int) (hz : zs.length ≤ 200000) (w : World) (hG : Rng w) (hr : Reads32 w v zs) : Calls Tryd.prog 26 #[v] w fun e w' =>
    ((zs.all Ch.valid = true ∧ e = .returned (.tuple #[.string (str (encAll zs)), .int .i64 0])) ∨ (zs.all Ch.valid = false ∧ e = .returned (.tuple #[.string ⟨#[]⟩, .int .i64 2]))) ∧ Below w.heap.size w w' := by
  obtain ⟨b, off, cap, rfl, hlt, hc⟩ := hr
  go_enter Tryd.func26, Tryd.ntmps26
  go_wp2
  go_loopw [4, 9] (fun v i wr => ∃ k : Nat, k ≤ zs.length ∧ i = .int .i64 k ∧ Hid ((zs.take k).all Ch.valid = true) ∧
      wr.ownsRow w.heap.size 5 1 v (u8s (encAll (zs.take k))).length (u8s (encAll (zs.take k))) ∧ Below w.heap.size w wr) (fun _ i _ => zs.length - (intOf i).toNat)
  case atStart => exact ⟨0, Nat.zero_le _, rfl, Lib.hid rfl, ⟨rfl, .inl ⟨rfl, rfl⟩⟩, Below.refl _ _⟩
  case round =>
    obtain ⟨k, hk, rfl, hall, hown, hB⟩ := hrel
    have hGr : Rng wr := hG.next hB
    by_cases hlt2 : k < zs.length
    · have hcx : wr.cell? ⟨b, off + k, none⟩ = some (.int .i32 (zs.getD k 0)) := (hB.cell (p := ⟨b, off + k, none⟩) hlt).trans (hc k hlt2)
      have hel : (u8s (encAll (zs.take k))).length ≤ 1000000 := by
        rw [u8s_length]; have := encAll_length (zs.take k); rw [List.length_take] at this; omega
      obtain ⟨z, hze⟩ : ∃ z, zs.getD k 0 = z := ⟨_, rfl⟩
      rw [hze] at hcx
      cases hv : Ch.valid z with
      | true =>
        obtain ⟨n, rfl⟩ := Int.eq_ofNat_of_zero_le (Ch.valid_le hv).1
        have hcm := valid_nat hv
        have hes : Hid (encAll (zs.take (k + 1)) = encAll (zs.take k) ++ Ch.encN n) := Lib.hid (encAll_succ zs k hlt2 n hze)
        have hall' : Hid ((zs.take (k + 1)).all Ch.valid = true) := Lib.hid (by
          have e : zs[k] = (n : Int) := by rw [← hze]; simp [List.getD_eq_getElem?_getD, hlt2]
          rw [List.take_succ_eq_append_getElem hlt2, e, List.all_append, hall.out]; simp [hv])
        have HV : Hid _ := Lib.hid hv
        clear hv hze hall
        go_wp2_with (first
          | (go_at_call 8; refine (f8_any _ _ hGr).mono ?_; rintro e w1 ⟨rfl, hb1⟩; rw [HV.out]; have hown1 := own_below hown hb1)
          | (go_at_call 45; go_must (refine (f45_any n hcm _ (u8s (encAll (zs.take k))) w.heap.size _ (Nat.le_trans hB.size hb1.size) hown1 hel).mono ?_); rintro e w2 ⟨v', rfl, hown2, hg2⟩))
        go_roundw
        case rel =>
          refine ⟨k + 1, by omega, by simp, hall', ?_, (hB.trans (hb1.mono hB.size)).grown hg2 (Nat.le_trans hB.size hb1.size) (fun j e => (Nat.lt_or_ge j w.heap.size).elim (fun hj => absurd e.symm (row_ge hown1 j hj)) id)⟩
          rw [hes.out, u8s_append, List.length_append, u8s_length (Ch.encN n), Ch.encN_length]
          exact hown2
        case measure => simp [intOf]; omega
      | false =>
        have hall' : Hid (zs.all Ch.valid = false) := Lib.hid (by
          have e : zs[k] = z := by rw [← hze]; simp [List.getD_eq_getElem?_getD, hlt2]
          rw [List.all_eq_false]
          exact ⟨z, e ▸ List.getElem_mem hlt2, by rw [hv]; decide⟩)
        have HV : Hid _ := Lib.hid hv
        clear hv hze hall
        go_wp2_with (go_at_call 8; refine (f8_any _ _ hGr).mono ?_; rintro e w1 ⟨rfl, hb1⟩; rw [HV.out])
        go_ret2
        go_light
        exact ⟨.inr ⟨hall'.out, rfl⟩, hB.trans (hb1.mono hB.size)⟩
    · have hke : zs.take k = zs := List.take_of_length_le (by omega)
      rw [hke] at hown hall
      have hown' := hown
      rw [u8s_i] at hown'
      have hcv := run_str_own hown'
      rw [strI_nat] at hcv
      have HA := hall
      clear hke hown' hall
      go_wp2
      go_ret2
      go_light
      exact ⟨.inl ⟨HA.out, rfl⟩, hB⟩

set_option maxRecDepth 100000 in
set_option maxHeartbeats 1000000 in
theorem f26_nil (w : World) : Calls Tryd.prog 26 #[.slice none 0 0] w fun e w' => e = .returned (.tuple #[.string (str []), .int .i64 0]) ∧ Below w.heap.size w w' := by
  have hcv : (convert 46 9 (.slice none 0 0)).run Tryd.prog w = .ok (.string (str [])) w := run_str_own (w := w) (B := 0) (l := []) (n := 0) ⟨rfl, .inl ⟨rfl, rfl⟩⟩
  go_enter Tryd.func26, Tryd.ntmps26
  go_wp2
  refine wp_loop_rounds 1 ?_
  rw [rounds_succ]
  go_wp2
  go_ret2
  go_light
  exact ⟨rfl, Below.refl _ _⟩

theorem strCells_str (l : List Nat) (h : ∀ b ∈ l, b < 256) : Lib.strCells (str l) = u8s l := by
  have e : Lib.strCells (str l) = u8s (bts (str l)) := by simp [Lib.strCells, u8s, bts]
  rw [e, bts_str l h]

set_option maxRecDepth 100000 in
set_option maxHeartbeats 1000000 in
theorem f27_some (v : Value) (zs : List Int) (hz : zs.length ≤ 200000) (w : World) (hr : Reads32 w v zs) : Calls Tryd.prog 27 #[v] w fun e w' =>
    ((zs.all Ch.valid = true ∧ e = .returned (.tuple #[.string (str (encAll zs)), .int .i64 0])) ∨ (zs.all Ch.valid = false ∧ e = .returned (.tuple #[.string ⟨#[]⟩, .int .i64 2]))) ∧ Below w.heap.size w w' := by
  obtain ⟨b, off, cap, rfl, hlt, hc⟩ := hr
  obtain ⟨i0, hi, hz0, hz1, hz2⟩ := info_parts Tryd.info5
  go_enter Tryd.func27, Tryd.ntmps27
  go_wp2
  go_loopw [4, 5] (fun v i wr => ∃ k : Nat, k ≤ zs.length ∧ i = .int .i64 k ∧ Hid ((zs.take k).all Ch.valid = true) ∧
      wr.ownsRow w.heap.size 5 1 v (u8s (encAll (zs.take k))).length (u8s (encAll (zs.take k))) ∧ Below w.heap.size w wr) (fun _ i _ => zs.length - (intOf i).toNat)
  case atStart => exact ⟨0, Nat.zero_le _, rfl, Lib.hid rfl, ⟨rfl, .inl ⟨rfl, rfl⟩⟩, Below.refl _ _⟩
  case round =>
    obtain ⟨k, hk, rfl, hall, hown, hB⟩ := hrel
    by_cases hlt2 : k < zs.length
    · have hcx : wr.cell? ⟨b, off + k, none⟩ = some (.int .i32 (zs.getD k 0)) := (hB.cell (p := ⟨b, off + k, none⟩) hlt).trans (hc k hlt2)
      have hel : (u8s (encAll (zs.take k))).length ≤ 1000000 := by
        rw [u8s_length]; have := encAll_length (zs.take k); rw [List.length_take] at this; omega
      obtain ⟨z, hze⟩ : ∃ z, zs.getD k 0 = z := ⟨_, rfl⟩
      rw [hze] at hcx
      cases hv : Ch.valid z with
      | true =>
        obtain ⟨n, rfl⟩ := Int.eq_ofNat_of_zero_le (Ch.valid_le hv).1
        have hcm := valid_nat hv
        have hes : Hid (encAll (zs.take (k + 1)) = encAll (zs.take k) ++ Ch.encN n) := Lib.hid (encAll_succ zs k hlt2 n hze)
        have hall' : Hid ((zs.take (k + 1)).all Ch.valid = true) := Lib.hid (by
          have e : zs[k] = (n : Int) := by rw [← hze]; simp [List.getD_eq_getElem?_getD, hlt2]
          rw [List.take_succ_eq_append_getElem hlt2, e, List.all_append, hall.out]; simp [hv])
        have HV : Hid _ := Lib.hid hv
        clear hv hze hall
        go_wp2_with (first
          | (go_at_call 9; refine (f9_any _ _).mono ?_; rintro e w1 ⟨rfl, rfl⟩; rw [HV.out])
          | (go_at_call 41; refine (f41_nat _ hcm _).mono ?_; rintro e w3 ⟨⟨bs, rfl, hbs⟩, hb3⟩; have hbl : bs.size = Ch.lenN n := (by rw [hbs, str_size, Ch.encN_length]); have hown3 := own_below hown hb3; have hbl4 : bs.size ≤ 4 := (by rw [hbl]; exact (Ch.lenN_pos n).2); have HB : Hid _ := Lib.hid hbs; have HL : Hid _ := Lib.hid hbl; clear hbs hbl)
          | (at_builtin; go_must (refine Lib.wpList_append_own_string _ rfl _ _ 46 9 rfl w.heap.size 5 i0 Tryd.underlying46 Tryd.underlying9 hi hz0 hz1 hz2 _ (u8s (encAll (zs.take k))).length (u8s (encAll (zs.take k))) rfl hown3 _ rfl (by unfold maxLen; omega) (by omega) (Nat.le_trans hB.size hb3.size) ?_); intro v' w2 hown2 hg2 _))
        go_roundw
        case rel =>
          refine ⟨k + 1, by omega, by simp, hall', ?_, (hB.trans (hb3.mono hB.size)).grown hg2 (Nat.le_trans hB.size hb3.size) (fun j e => (Nat.lt_or_ge j w.heap.size).elim (fun hj => absurd e.symm (row_ge hown3 j hj)) id)⟩
          rw [hes.out, u8s_append, List.length_append, u8s_length (Ch.encN n), Ch.encN_length, ← HL.out, ← strCells_str (Ch.encN n) (Ch.encN_lt hcm), ← HB.out]
          exact hown2
        case measure => simp [intOf]; omega
      | false =>
        have hall' : Hid (zs.all Ch.valid = false) := Lib.hid (by
          have e : zs[k] = z := by rw [← hze]; simp [List.getD_eq_getElem?_getD, hlt2]
          rw [List.all_eq_false]
          exact ⟨z, e ▸ List.getElem_mem hlt2, by rw [hv]; decide⟩)
        have HV : Hid _ := Lib.hid hv
        clear hv hze hall
        go_wp2_with (go_at_call 9; refine (f9_any _ _).mono ?_; rintro e w1 ⟨rfl, rfl⟩; rw [HV.out])
        go_ret2
        go_light
        exact ⟨.inr ⟨hall'.out, rfl⟩, hB⟩
    · have hke : zs.take k = zs := List.take_of_length_le (by omega)
      rw [hke] at hown hall
      have hown' := hown
      rw [u8s_i] at hown'
      have hcv := run_str_own hown'
      rw [strI_nat] at hcv
      have HA := hall
      clear hke hown' hall
      go_wp2
      go_ret2
      go_light
      exact ⟨.inl ⟨HA.out, rfl⟩, hB⟩

set_option maxRecDepth 100000 in
set_option maxHeartbeats 1000000 in
theorem f27_nil (w : World) : Calls Tryd.prog 27 #[.slice none 0 0] w fun e w' => e = .returned (.tuple #[.string (str []), .int .i64 0]) ∧ Below w.heap.size w w' := by
  have hcv : (convert 46 9 (.slice none 0 0)).run Tryd.prog w = .ok (.string (str [])) w := run_str_own (w := w) (B := 0) (l := []) (n := 0) ⟨rfl, .inl ⟨rfl, rfl⟩⟩
  go_enter Tryd.func27, Tryd.ntmps27
  go_wp2
  refine wp_loop_rounds 1 ?_
  rw [rounds_succ]
  go_wp2
  go_ret2
  go_light
  exact ⟨rfl, Below.refl _ _⟩
end Go.Proofs.YtllnfiidmpopkaaDoor
