/-
  What Decode and Text of the reference return. Conditions: the string's size.
-/
import Derived.Test.YtllnfiidmpopkaaDoorDecode
import Derived.LoopTactic
namespace Go.Proofs.YtllnfiidmpopkaaDoor
open Go Go.RowKit

theorem own_below {w w1 : World} {base e size n : Nat} {v : Value} {xs : List Value} (h : w.ownsRow base e size v n xs) (hb : Below w.heap.size w w1) : w1.ownsRow base e size v n xs := by
  refine h.kept (grown_of_below hb) ?_
  rcases h.2 with ⟨rfl, _⟩ | ⟨g, cap, cur, rfl, _⟩
  · exact .inl rfl
  · exact .inr (by simp [Value.ownBlock])
theorem wrongI_cases (s : ByteArray) : wrongI s = -1 ∨ 0 ≤ wrongI s := by
  unfold wrongI; split
  · right; omega
  · left; rfl
theorem wrongI_of_all {s : ByteArray} (h : ∀ y ∈ items s, 0 ≤ y.2) : wrongI s = -1 := by
  unfold wrongI
  rw [List.find?_eq_none.2 (fun y hy => by have := h y hy; simp; omega)]
theorem wrongI_of_bad {s : ByteArray} {pre t : List (Nat × Int)} {x : Nat × Int} (hi : items s = pre ++ x :: t) (h : ∀ y ∈ pre, 0 ≤ y.2) (hx : x.2 < 0) : wrongI s = x.1 := by
  unfold wrongI
  rw [hi, List.find?_append, List.find?_eq_none.2 (fun y hy => by have := h y hy; simp; omega)]
  simp [hx]

set_option maxRecDepth 100000 in
set_option maxHeartbeats 1000000 in
theorem f25_any (s : ByteArray) (hs : s.size ≤ 1000000) (w : World) : Calls Tryd.prog 25 #[.string s] w fun e w' =>
    ((∃ v, wrongI s = -1 ∧ e = .returned (.tuple #[v, .int .i64 0, .int .i64 0]) ∧ w'.ownsRow w.heap.size 21 1 v (items s).length (i32s (seconds (items s)))) ∨ (0 ≤ wrongI s ∧ e = .returned (.tuple #[.slice none 0 0, .int .i64 (wrongI s), .int .i64 6]))) ∧ Below w.heap.size w w' := by
  obtain ⟨i0, hi, hz0, hz1, hz2⟩ := info_parts Tryd.info21
  go_enter Tryd.func25, Tryd.ntmps25
  go_wp2
  go_loopw [5, 6] (fun v i wr => ∃ (p f : Nat) (pre : List (Nat × Int)), p ≤ s.size ∧ s.size < p + f ∧ pre.length ≤ p ∧ i = .int .i64 p ∧ Hid (items s = pre ++ Ch.items f ((bts s).drop p) p) ∧ Hid (∀ y ∈ pre, 0 ≤ y.2) ∧
      wr.ownsRow w.heap.size 21 1 v pre.length (i32s (seconds pre)) ∧ Below w.heap.size w wr) (fun _ i _ => s.size - (intOf i).toNat)
  case atStart => exact ⟨0, s.size + 1, [], Nat.zero_le _, by omega, by simp, rfl, Lib.hid rfl, Lib.hid (by simp), ⟨rfl, .inl ⟨rfl, rfl⟩⟩, Below.refl _ _⟩
  case round =>
    obtain ⟨p, f, pre, hp, hf, hpre, rfl, hit, hall, hown, hB⟩ := hrel
    by_cases hlt : p < s.size
    · have hsz' : (s.extract p s.size).size = s.size - p := by simp
      have hle : (s.extract p s.size).size ≤ maxLen := by unfold maxLen; omega
      obtain ⟨f, rfl⟩ : ∃ f', f = f' + 1 := ⟨f - 1, by omega⟩
      have hpl : p < (bts s).length := by rw [bts_length]; exact hlt
      clear hsz'
      cases hd : Ch.dec ((bts s).drop p) with
      | none =>
        have hd' : Ch.dec (bts (s.extract p s.size)) = none := by rw [bts_from]; exact hd
        have HD' : Hid _ := Lib.hid hd'
        have hw : wrongI s = (p : Nat) := wrongI_of_bad (x := (p, -1)) (t := []) (by rw [hit.out, items_none hpl hd]) hall.out (by simp)
        have HW : Hid _ := Lib.hid hw
        clear hd hd' hit hw
        go_wp2_with (go_at_call 44; refine (f44_none _ _ hle HD'.out).mono ?_; rintro e w1 ⟨⟨x, rfl⟩, hb1⟩)
        go_ret3
        go_light
        exact ⟨.inr ⟨by rw [HW.out]; omega, by rw [HW.out]; rfl⟩, hB.trans (hb1.mono hB.size)⟩
      | some q =>
        obtain ⟨c, m⟩ := q
        have hd' : Ch.dec (bts (s.extract p s.size)) = some (c, m) := by rw [bts_from]; exact hd
        obtain ⟨hm1, hm4, hml⟩ := Ch.dec_le hd
        obtain ⟨_, hv, hlen⟩ := Ch.dec_some hd
        have hcm := valid_nat hv
        have hpm : p + m ≤ s.size := by simp only [List.length_drop, bts_length] at hml; omega
        have HD' : Hid _ := Lib.hid hd'
        have HL : Hid _ := Lib.hid hlen
        have hit' : Hid (items s = (pre ++ [(p, (c : Int))]) ++ Ch.items f ((bts s).drop (p + m)) (p + m)) := Lib.hid (by rw [hit.out, items_some hpl hd]; simp)
        have hall' : Hid (∀ y ∈ pre ++ [(p, (c : Int))], 0 ≤ y.2) := Lib.hid (fun y hy => by
          rcases List.mem_append.1 hy with h | h
          · exact hall.out y h
          · simp at h; subst h; exact Int.natCast_nonneg c)
        clear hd hd' hit hml hall hv hlen
        go_wp2_with (first
          | (go_at_call 44; refine (f44_some _ _ hle c m HD'.out).mono ?_; rintro e w1 ⟨rfl, hb1⟩; have hown1 := own_below hown hb1)
          | (at_builtin; go_must (refine wpList_append_own _ rfl _ _ 33 rfl w.heap.size 21 i0 (.int .i32 0) 1 4 Tryd.underlying33 hi hz0 hz1 hz2 rfl (by decide) u5 pre.length (i32s (seconds pre)) rfl (hown1.alloc _) ⟨w1.heap.size, 0, none⟩ 1 1 [.int .i32 (c : Int)] rfl rfl (cell_one_new _ _ _) (by simp [Value.oneCell']) (by unfold maxLen; omega) (by omega) (by have := hB.size; have := hb1.size; simp; omega) ?_); intro v' w2 hown2 hgrow _)
          | (go_at_call 41; refine (f41_nat _ hcm _).mono ?_; rintro e w3 ⟨⟨bs, rfl, hbs⟩, hb3⟩; have hbl : bs.size ≤ 4 := (by rw [hbs, str_size, Ch.encN_length, HL.out]; exact hm4); have HB : Hid _ := Lib.hid hbs; clear hbs))
        have hbs : bs.size = m := by rw [HB.out, str_size, Ch.encN_length, HL.out]
        have hown3 := own_below hown2 hb3
        have hB2 : Below w.heap.size w w2 := (hB.trans (hb1.mono hB.size)).grown (grownBy_alloc hgrow) (by have := hB.size; have := hb1.size; omega) (fun k e => (Nat.lt_or_ge k w.heap.size).elim (fun hk => absurd e.symm (row_ge hown1 k hk)) id)
        have hB3 : Below w.heap.size w w3 := hB2.trans (hb3.mono hB2.size)
        go_wp2
        go_roundw
        case rel => exact ⟨p + m, f, pre ++ [(p, (c : Int))], by omega, by omega, by simp; omega, by rw [hbs]; simp, hit', hall', by simpa [i32s, seconds] using hown3, hB3⟩
        case measure => simp [intOf]; omega
    · have hpe : p = s.size := by omega
      have hit' : items s = pre := by rw [hit.out, items_end f p _ (by rw [bts_length]; omega), List.append_nil]
      have hall' : wrongI s = -1 := wrongI_of_all (by rw [hit']; exact hall.out)
      have HI : Hid _ := Lib.hid hit'
      have HA : Hid _ := Lib.hid hall'
      clear hit' hit hpe hall hall'
      go_wp2
      go_ret3
      go_light
      exact ⟨.inl ⟨u5, HA.out, rfl, by rw [HI.out]; exact hown⟩, hB⟩
theorem f36_any (s : ByteArray) (hs : s.size ≤ 1000000) (w : World) : Calls Tryd.prog 36 #[.string s] w fun e w' => e = .returned (.bool (decide (wrongI s = -1))) ∧ Below w.heap.size w w' := by
  go_enter Tryd.func36, Tryd.ntmps36
  go_wp2_with (go_at_call 25; refine (f25_any s hs _).mono ?_; rintro e w1 ⟨⟨v, hw, rfl, hown⟩ | ⟨hw, rfl⟩, hb⟩)
  all_goals go_ret
  all_goals go_light
  · exact ⟨ret_bool (by rw [hw]; rfl), hb⟩
  · exact ⟨ret_bool (by rw [decide_eq_false (by omega)]), hb⟩
end Go.Proofs.YtllnfiidmpopkaaDoor
