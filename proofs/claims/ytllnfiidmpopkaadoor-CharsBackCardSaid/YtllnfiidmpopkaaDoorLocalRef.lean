/-
  What Local of the reference returns. Conditions: the string's size.
-/
import Derived.Test.YtllnfiidmpopkaaDoorLocal
namespace Go.Proofs.YtllnfiidmpopkaaDoor
open Go Go.RowKit

/-- As the reference says it. -/
def localR (s : ByteArray) : Bool := decide (wrongI s = -1) && decide ((items s).length ≠ 0) && decide (s.size ≤ 200) && Ch.first ((seconds (items s)).getD 0 0) && (seconds (items s)).all Ch.inner

theorem items_places (f p : Nat) (l : List Nat) : ∀ x ∈ Ch.items f (l.drop p) p, p ≤ x.1 := by
  induction f generalizing p with
  | zero => simp [Ch.items]
  | succ f ih =>
    intro x hx
    by_cases hp : p < l.length
    · cases hd : Ch.dec (l.drop p) with
      | none => rw [items_none hp hd] at hx; simp at hx; subst hx; exact Nat.le_refl _
      | some q =>
        obtain ⟨c, m⟩ := q
        rw [items_some hp hd] at hx
        rcases List.mem_cons.1 hx with rfl | h
        · exact Nat.le_refl _
        · have := ih (p + m) x h; omega
    · rw [items_end (f + 1) p l (by omega)] at hx; cases hx
theorem items_length (f : Nat) : ∀ (l : List Nat) (p : Nat), (Ch.items f l p).length ≤ f := by
  induction f with
  | zero => intro l p; simp [Ch.items]
  | succ f ih =>
    intro l p
    rw [Ch.items]
    split
    · simp
    · split
      · simp
      · rw [List.length_cons]; exact Nat.succ_le_succ (ih _ _)
theorem items_shape (s : ByteArray) : (s.size = 0 ∧ items s = []) ∨ (s.size ≠ 0 ∧ ∃ c t, items s = (0, c) :: t ∧ ∀ x ∈ t, 0 < x.1) := by
  unfold items
  by_cases h0 : s.size = 0
  · have := items_end (s.size + 1) 0 (bts s) (by rw [bts_length]; omega)
    rw [List.drop_zero] at this
    exact .inl ⟨h0, this⟩
  · refine .inr ⟨h0, ?_⟩
    have hp : 0 < (bts s).length := by rw [bts_length]; omega
    cases hd : Ch.dec ((bts s).drop 0) with
    | none => have := items_none (f := s.size) hp hd; rw [List.drop_zero] at this; exact ⟨_, _, this, by simp⟩
    | some q =>
      obtain ⟨c, m⟩ := q
      have := items_some (f := s.size) hp hd
      rw [List.drop_zero] at this
      refine ⟨_, _, this, fun x hx => ?_⟩
      have h1 := items_places _ _ _ x hx
      have h2 := (Ch.dec_le hd).1
      omega
theorem wrongI_iff (s : ByteArray) : wrongI s = -1 ↔ ∀ y ∈ items s, 0 ≤ y.2 := by
  refine ⟨fun h => ?_, wrongI_of_all⟩
  unfold wrongI at h
  split at h
  · omega
  · rename_i hf
    intro y hy
    have := List.find?_eq_none.1 hf y hy
    simp at this; omega
theorem localR_eq (s : ByteArray) : localR s = localB s := by
  unfold localR localB
  rcases items_shape s with ⟨h0, hi⟩ | ⟨h0, c, t, hi, ht⟩
  · simp [hi, h0]
  · rw [Bool.eq_iff_iff]
    simp only [Bool.and_eq_true, decide_eq_true_eq, wrongI_iff, List.all_eq_true, hi, seconds, List.map_cons, List.length_cons, List.getD_cons_zero, okItem, Bool.or_eq_true, Bool.not_eq_true', decide_eq_false_iff_not]
    constructor
    · rintro ⟨⟨⟨⟨h1, _⟩, h3⟩, h4⟩, h5⟩
      refine ⟨⟨fun x hx => ⟨⟨h1 x hx, h5 x.2 ?_⟩, ?_⟩, h0⟩, h3⟩
      · rcases List.mem_cons.1 hx with rfl | h
        · simp
        · exact List.mem_cons_of_mem _ (List.mem_map.2 ⟨x, h, rfl⟩)
      · rcases List.mem_cons.1 hx with rfl | h
        · exact .inr h4
        · exact .inl (by have := ht x h; omega)
    · rintro ⟨⟨h1, _⟩, h3⟩
      refine ⟨⟨⟨⟨fun y hy => (h1 y hy).1.1, by omega⟩, h3⟩, ?_⟩, ?_⟩
      · rcases (h1 (0, c) (by simp)).2 with h | h
        · exact absurd rfl h
        · exact h
      · intro z hz
        rcases List.mem_cons.1 hz with rfl | h
        · exact (h1 (0, z) (by simp)).1.2
        · obtain ⟨x, hx, rfl⟩ := List.mem_map.1 h
          exact (h1 x (List.mem_cons_of_mem _ hx)).1.2

set_option maxRecDepth 100000 in
set_option maxHeartbeats 1000000 in
theorem f17_any (s : ByteArray) (hs : s.size ≤ 1000000) (w : World) : Calls Tryd.prog 17 #[.string s] w fun e w' => e = .returned (.bool (localR s)) ∧ Below w.heap.size w w' := by
  rcases wrongI_cases s with hw | hw
  · have HW : Hid _ := Lib.hid hw
    clear hw
    obtain ⟨cs, hcs⟩ : ∃ cs, seconds (items s) = cs := ⟨_, rfl⟩
    have hln : (items s).length = cs.length := by rw [← hcs, seconds_length]
    have hcl : cs.length ≤ 1000001 := by rw [← hln]; exact Nat.le_trans (items_length _ _ _) (by omega)
    have hall : Hid (localR s = (decide (cs.length ≠ 0) && decide (s.size ≤ 200) && Ch.first (cs.getD 0 0) && cs.all Ch.inner)) := Lib.hid (by rw [localR, HW.out, hcs, hln]; simp)
    have call : Calls Tryd.prog 25 #[.string s] w fun e w' => (∃ v, e = .returned (.tuple #[v, .int .i64 0, .int .i64 0]) ∧ R32 w' v cs) ∧ Below w.heap.size w w' := by
      refine (f25_any s hs w).mono ?_
      rintro e w' ⟨⟨v, _, rfl, hown⟩ | ⟨h, _⟩, hb⟩
      · rw [hcs] at hown; exact ⟨⟨v, rfl, R32.own hown⟩, hb⟩
      · rw [HW.out] at h; omega
    have HC : Hid _ := Lib.hid call
    clear call hcs hln
    by_cases h0 : cs.length = 0
    · have hf : Hid (localR s = false) := Lib.hid (by rw [hall.out, h0]; simp)
      clear hall
      have hn : cs = [] := List.length_eq_zero_iff.1 h0
      subst hn
      clear h0
      go_enter Tryd.func17, Tryd.ntmps17
      go_wp2_with (go_at_call 25; refine HC.out.mono ?_; rintro e w1 ⟨⟨v, rfl, hr⟩, hb⟩; obtain ⟨a, cap, rfl⟩ := r32_len hr)
      go_ret
      go_light
      exact ⟨ret_bool hf.out.symm, hb⟩
    · by_cases hl : s.size ≤ 200
      · have hall2 : Hid (localR s = (Ch.first (cs.getD 0 0) && cs.all Ch.inner)) := Lib.hid (by rw [hall.out, decide_eq_true hl, decide_eq_true h0]; simp)
        have d1 : ((cs.length : Int) == 0) = false := beq_eq_false_iff_ne.2 (by omega)
        have d2 : decide (200 < (s.size : Int)) = false := decide_eq_false (by omega)
        have hpos : 0 < cs.length := by omega
        obtain ⟨z0, hz0⟩ : ∃ z, cs.getD 0 0 = z := ⟨_, rfl⟩
        have HN : Hid _ := Lib.hid h0
        have HZ : Hid _ := Lib.hid hz0
        clear hall h0 hz0
        go_enter Tryd.func17, Tryd.ntmps17
        cases hf : Ch.first z0 with
        | false =>
          have HF : Hid _ := Lib.hid hf
          have hfin : Hid (localR s = false) := Lib.hid (by rw [hall2.out, HZ.out, hf]; rfl)
          clear hf hall2
          go_wp2_with (first
            | (go_at_call 25; refine HC.out.mono ?_; rintro e w1 ⟨⟨v, rfl, hr⟩, hb⟩; obtain ⟨b, off, cap, rfl, hlt, hc⟩ : Reads32 w1 v cs := hr.elim (fun h => absurd (by rw [h.2]; rfl) HN.out) id; have hc0 : w1.cell? ⟨b, off, none⟩ = some (.int .i32 z0) := (by have := hc 0 hpos; rw [HZ.out] at this; exact this); have HCC : Hid _ := Lib.hid hc; clear hc)
            | (go_at_call 13; refine (f13_any _ _).mono ?_; rintro e w2 ⟨rfl, rfl⟩; rw [HF.out]))
          go_ret
          go_light
          exact ⟨ret_bool hfin.out.symm, hb⟩
        | true =>
          have HF : Hid _ := Lib.hid hf
          have hfin : Hid (localR s = cs.all Ch.inner) := Lib.hid (by rw [hall2.out, HZ.out, hf]; rfl)
          clear hf hall2
          go_wp2_with (first
            | (go_at_call 25; refine HC.out.mono ?_; rintro e w1 ⟨⟨v, rfl, hr⟩, hb⟩; obtain ⟨b, off, cap, rfl, hlt, hc⟩ : Reads32 w1 v cs := hr.elim (fun h => absurd (by rw [h.2]; rfl) HN.out) id; have hc0 : w1.cell? ⟨b, off, none⟩ = some (.int .i32 z0) := (by have := hc 0 hpos; rw [HZ.out] at this; exact this); have HCC : Hid _ := Lib.hid hc; clear hc)
            | (go_at_call 13; refine (f13_any _ _).mono ?_; rintro e w2 ⟨rfl, rfl⟩; rw [HF.out]))
          clear hc0
          go_loop [6] (fun i => ∃ k : Nat, k ≤ cs.length ∧ i = .int .i64 k ∧ Hid ((cs.take k).all Ch.inner = true)) (fun i => cs.length - (intOf i).toNat)
          case atStart => exact ⟨0, Nat.zero_le _, rfl, Lib.hid rfl⟩
          case round =>
            obtain ⟨k, hk, rfl, hin⟩ := hrel
            by_cases hlt2 : k < cs.length
            · have hcx := HCC.out k hlt2
              obtain ⟨z, hze⟩ : ∃ z, cs.getD k 0 = z := ⟨_, rfl⟩
              rw [hze] at hcx
              have ez : cs[k] = z := by rw [← hze]; simp [List.getD_eq_getElem?_getD, hlt2]
              cases hv : Ch.inner z with
              | true =>
                have HV : Hid _ := Lib.hid hv
                have hin' : Hid ((cs.take (k + 1)).all Ch.inner = true) := Lib.hid (by rw [List.take_succ_eq_append_getElem hlt2, ez, List.all_append, hin.out]; simp [hv])
                clear hv hze ez hin
                go_wp2_with (go_at_call 15; refine (f15_any _ _).mono ?_; rintro e w2 ⟨rfl, rfl⟩; rw [HV.out])
                go_round
                case rel => exact ⟨k + 1, by omega, by simp, hin'⟩
                case measure => simp [intOf]; omega
              | false =>
                have HV : Hid _ := Lib.hid hv
                have hbad : Hid (localR s = false) := Lib.hid (by rw [hfin.out, List.all_eq_false]; exact ⟨z, ez ▸ List.getElem_mem hlt2, by rw [hv]; decide⟩)
                clear hv hze ez hin
                go_wp2_with (go_at_call 15; refine (f15_any _ _).mono ?_; rintro e w2 ⟨rfl, rfl⟩; rw [HV.out])
                go_ret
                go_light
                exact ⟨ret_bool hbad.out.symm, hb⟩
            · have hgood : Hid (localR s = true) := Lib.hid (by
                have : cs.take k = cs := List.take_of_length_le (by omega)
                rw [hfin.out, ← this]; exact hin.out)
              clear hin
              go_wp2
              go_ret
              go_light
              exact ⟨ret_bool hgood.out.symm, hb⟩
      · have hf : Hid (localR s = false) := Lib.hid (by rw [hall.out]; simp [hl])
        have d1 : ((cs.length : Int) == 0) = false := beq_eq_false_iff_ne.2 (by omega)
        have d2 : decide (200 < (s.size : Int)) = true := decide_eq_true (by omega)
        have HN : Hid _ := Lib.hid h0
        clear hall hl h0
        go_enter Tryd.func17, Tryd.ntmps17
        go_wp2_with (go_at_call 25; refine HC.out.mono ?_; rintro e w1 ⟨⟨v, rfl, hr⟩, hb⟩; obtain ⟨a, cap, rfl⟩ := r32_len hr)
        go_ret
        go_light
        exact ⟨ret_bool hf.out.symm, hb⟩
  · have hf : Hid (localR s = false) := Lib.hid (by rw [localR, decide_eq_false (by omega)]; rfl)
    have call : Calls Tryd.prog 25 #[.string s] w fun e w' => e = .returned (.tuple #[.slice none 0 0, .int .i64 (wrongI s), .int .i64 6]) ∧ Below w.heap.size w w' := by
      refine (f25_any s hs w).mono ?_
      rintro e w' ⟨⟨v, h, _⟩ | ⟨_, rfl⟩, hb⟩
      · omega
      · exact ⟨rfl, hb⟩
    have HC : Hid _ := Lib.hid call
    clear call hw
    go_enter Tryd.func17, Tryd.ntmps17
    go_wp2_with (go_at_call 25; refine HC.out.mono ?_; rintro e w1 ⟨rfl, hb⟩)
    go_ret
    go_light
    exact ⟨ret_bool hf.out.symm, hb⟩
end Go.Proofs.YtllnfiidmpopkaaDoor
