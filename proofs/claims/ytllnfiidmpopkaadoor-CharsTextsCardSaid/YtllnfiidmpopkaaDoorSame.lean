/-
  What SameChars returns. Conditions: the lengths.
-/
import Derived.Test.YtllnfiidmpopkaaDoorEncode
namespace Go.Proofs.YtllnfiidmpopkaaDoor
open Go Go.RowKit

/-- .. or nil. -/
def R32 (w : World) (v : Value) (zs : List Int) : Prop := (v = .slice none 0 0 ∧ zs = []) ∨ Reads32 w v zs
theorem R32.below {w w1 : World} {v : Value} {zs : List Int} (h : R32 w v zs) (hb : Below w.heap.size w w1) : R32 w1 v zs := h.imp id (·.below hb)
theorem R32.own {w : World} {B n : Nat} {v : Value} {zs : List Int} (h : w.ownsRow B 21 1 v n (i32s zs)) : R32 w v zs := by
  obtain ⟨hl, ⟨rfl, rfl⟩ | ⟨g, cap, cur, rfl, hB, hg, hn, hc, hz, ht⟩⟩ := h
  · exact .inl ⟨rfl, by simpa [i32s] using hl⟩
  · have hln : n = zs.length := by rw [i32s_length] at hl; omega
    subst hln
    refine .inr ⟨g, 0, cap, rfl, (Array.getElem?_eq_some_iff.1 hg).1, fun j hj => ?_⟩
    have hj' : (i32s zs)[j]? = some (.int .i32 (zs.getD j 0)) := by simp [i32s, List.getD_eq_getElem?_getD, hj]
    rw [← ht, List.getElem?_take] at hj'
    split at hj'
    · have : cur[j]? = some (.int .i32 (zs.getD j 0)) := by simpa using hj'
      simp only [Nat.zero_add]
      simp [World.cell?, hg, this]
    · cases hj'

set_option maxRecDepth 100000 in
set_option maxHeartbeats 1000000 in
theorem f28_some (u v : Value) (xs ys : List Int) (hx : xs.length ≤ 1000000) (w : World) (hu : Reads32 w u xs) (hv : Reads32 w v ys) (hlen : xs.length = ys.length) : Calls Tryd.prog 28 #[u, v] w fun e w' => e = .returned (.bool (decide (xs = ys))) ∧ Below w.heap.size w w' := by
  obtain ⟨b, off, cap, rfl, hlt, hc⟩ := hu
  obtain ⟨b', off', cap', rfl, hlt', hc'⟩ := hv
  rw [← hlen] at hc' ⊢
  have HL : Hid _ := Lib.hid hlen
  clear hlen
  go_enter Tryd.func28, Tryd.ntmps28
  go_wp2
  go_loopw [5] (fun i wr => ∃ k : Nat, k ≤ xs.length ∧ i = .int .i64 k ∧ Hid (xs.take k = ys.take k) ∧ Below w.heap.size w wr) (fun i _ => xs.length - (intOf i).toNat)
  case atStart => exact ⟨0, Nat.zero_le _, rfl, Lib.hid rfl, Below.refl _ _⟩
  case round =>
    obtain ⟨k, hk, rfl, hall, hB⟩ := hrel
    by_cases hlt2 : k < xs.length
    · have hcx : wr.cell? ⟨b, off + k, none⟩ = some (.int .i32 (xs.getD k 0)) := (hB.cell (p := ⟨b, off + k, none⟩) hlt).trans (hc k hlt2)
      have hcy : wr.cell? ⟨b', off' + k, none⟩ = some (.int .i32 (ys.getD k 0)) := (hB.cell (p := ⟨b', off' + k, none⟩) hlt').trans (hc' k hlt2)
      obtain ⟨x, hxe⟩ : ∃ x, xs.getD k 0 = x := ⟨_, rfl⟩
      obtain ⟨y, hye⟩ : ∃ y, ys.getD k 0 = y := ⟨_, rfl⟩
      rw [hxe] at hcx
      rw [hye] at hcy
      have hky : k < ys.length := by rw [← HL.out]; exact hlt2
      have ex : xs[k] = x := by rw [← hxe]; simp [List.getD_eq_getElem?_getD, hlt2]
      have ey : ys[k] = y := by rw [← hye]; simp [List.getD_eq_getElem?_getD, hky]
      by_cases hxy : x = y
      · have hall' : Hid (xs.take (k + 1) = ys.take (k + 1)) := Lib.hid (by rw [List.take_succ_eq_append_getElem hlt2, List.take_succ_eq_append_getElem hky, ex, ey, hall.out, hxy])
        have d : (x != y) = false := by rw [bne_eq_false_iff_eq]; exact hxy
        clear hxy hxe hye ex ey hall hky
        go_wp2
        go_quiet (fail)
        go_wp2
        go_roundw
        case rel => exact ⟨k + 1, by omega, by simp, hall', below_drewN hB _⟩
        case measure => simp [intOf]; omega
      · have hne : Hid (decide (xs = ys) = false) := Lib.hid (decide_eq_false (fun e => hxy (by rw [← ex, ← ey]; simp [e])))
        have d : (x != y) = true := by rw [bne_iff_ne]; exact hxy
        clear hxy hxe hye ex ey hall hky
        go_wp2
        go_quiet (fail)
        go_wp2
        go_ret
        go_light
        exact ⟨ret_bool hne.out.symm, below_drewN hB _⟩
    · have heq : Hid (decide (xs = ys) = true) := Lib.hid (by
        have h1 : xs.take k = xs := List.take_of_length_le (by omega)
        have h2 : ys.take k = ys := List.take_of_length_le (by rw [← HL.out]; omega)
        rw [decide_eq_true]; rw [← h1, ← h2]; exact hall.out)
      clear hall
      go_wp2
      go_ret
      go_light
      exact ⟨ret_bool heq.out.symm, hB⟩
theorem r32_len {w : World} {v : Value} {zs : List Int} (h : R32 w v zs) : ∃ a cap, v = .slice a zs.length cap := by
  rcases h with ⟨rfl, rfl⟩ | ⟨b, off, cap, rfl, _⟩
  · exact ⟨_, _, rfl⟩
  · exact ⟨_, _, rfl⟩
set_option maxRecDepth 100000 in
set_option maxHeartbeats 1000000 in
theorem f28_len (a a' : Option Addr) (n n' c c' : Nat) (w : World) (h : n ≠ n') : Calls Tryd.prog 28 #[.slice a n c, .slice a' n' c'] w fun e w' => e = .returned (.bool false) ∧ Below w.heap.size w w' := by
  have d : ((n : Int) != n') = true := by rw [bne_iff_ne]; omega
  go_enter Tryd.func28, Tryd.ntmps28
  go_wp2
  go_ret
  exact ⟨rfl, Below.refl _ _⟩
set_option maxRecDepth 100000 in
set_option maxHeartbeats 1000000 in
theorem f28_zero (a a' : Option Addr) (c c' : Nat) (w : World) : Calls Tryd.prog 28 #[.slice a 0 c, .slice a' 0 c'] w fun e w' => e = .returned (.bool true) ∧ Below w.heap.size w w' := by
  go_enter Tryd.func28, Tryd.ntmps28
  go_wp2
  refine wp_loop_rounds 1 ?_
  rw [rounds_succ]
  go_wp2
  go_ret
  exact ⟨rfl, Below.refl _ _⟩
theorem f28_any (u v : Value) (xs ys : List Int) (hx : xs.length ≤ 1000000) (w : World) (hu : R32 w u xs) (hv : R32 w v ys) : Calls Tryd.prog 28 #[u, v] w fun e w' => e = .returned (.bool (decide (xs = ys))) ∧ Below w.heap.size w w' := by
  by_cases hlen : xs.length = ys.length
  · by_cases h0 : xs = []
    · have h1 : ys = [] := by rw [h0] at hlen; exact List.length_eq_zero_iff.1 hlen.symm
      obtain ⟨a, c, rfl⟩ := r32_len hu
      obtain ⟨a', c', rfl⟩ := r32_len hv
      subst h0 h1
      exact f28_zero a a' c c' w
    · rcases hu with ⟨_, h⟩ | hu
      · exact absurd h h0
      · rcases hv with ⟨_, h⟩ | hv
        · exact absurd (List.length_eq_zero_iff.1 (by rw [hlen, h]; rfl)) h0
        · exact f28_some u v xs ys hx w hu hv hlen
  · obtain ⟨a, c, rfl⟩ := r32_len hu
    obtain ⟨a', c', rfl⟩ := r32_len hv
    rw [decide_eq_false (fun e => hlen (by rw [e]))]
    exact f28_len a a' _ _ c c' w hlen
end Go.Proofs.YtllnfiidmpopkaaDoor
