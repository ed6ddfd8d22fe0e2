/-
  What Local of the program returns. Conditions: the string's size, the program's table of ranges.
-/
import Derived.Test.YtllnfiidmpopkaaDoorSame
namespace Go.Proofs.YtllnfiidmpopkaaDoor
open Go Go.RowKit Go.Shelf
attribute [local go_sem] Oper.semAt_some

/-- A character at its place in a local name. -/
def okItem (x : Nat × Int) : Bool := decide (0 ≤ x.2) && Ch.inner x.2 && (!decide (x.1 = 0) || Ch.first x.2)
/-- A local name. -/
def localB (s : ByteArray) : Bool := (items s).all okItem && decide (s.size ≠ 0) && decide (s.size ≤ 200)
theorem boxed_below {W W' : World} {B : Nat} {t : TypeId} {v : Value} (h : Boxed W B t v) (hb : Below W.heap.size W W') : Boxed W' B t v := (hb.block B h.lt).trans h

set_option maxRecDepth 100000 in
set_option maxHeartbeats 1000000 in
theorem f16_in (s : ByteArray) (hs : s.size ≤ 1000000) (w : World) (hG : Rng w) : CallsIn Fence.wide 9 Tryd.prog 16 #[.string s] w fun e w' => e = .returned (.bool (localB s)) ∧ Below w.heap.size w w' := by
  refine callsIn_of_wp_marks Tryd.func16 rfl trivial ?_ rfl
  simp only [Tryd.ntmps16, List.size_toArray, List.length_cons, List.length_nil, Nat.reduceAdd, Nat.reduceSub, Array.replicate_succ, Array.replicate_zero, List.push_toArray, List.append_toArray, List.nil_append, List.cons_append]
  gi_wp2_with (refine ⟨trivial, ?_⟩; gi_at_call 30; refine (callsIn_wide.2 (f30_any _ _)).mono ?_; rintro e w1 ⟨rfl, rfl⟩)
  obtain ⟨W0, hW0⟩ : ∃ W0, (w.alloc (.cells #[.bool false] 4)).alloc (.cells #[.string s] 9) = W0 := ⟨_, rfl⟩
  have hs0 : W0.heap.size = w.heap.size + 2 := by rw [← hW0]; simp
  have hB0 : Boxed W0 w.heap.size 4 (.bool false) := by rw [← hW0]; exact (Boxed.new w 4 _).alloc _
  have hB1 : Boxed W0 (w.heap.size + 1) 9 (.string s) := by
    rw [← hW0]; have := Boxed.new (w.alloc (.cells #[.bool false] 4)) 9 (.string s); rwa [World.size_alloc] at this
  have hb0 : Below w.heap.size w W0 := by rw [← hW0]; exact ((Below.refl _ w).alloc (Nat.le_refl _) _).alloc (by simp) _
  rw [hW0]
  clear hW0
  refine wpIn_rangeFunc_ownF rfl (by decide) (gf := 46) (lb := #[.pointer (some ⟨w.heap.size + 1, 0, none⟩)]) rfl trivial (enters_of Tryd.func46 (by kernel_rfl) rfl)
    (all_stops 8 (by decide) (w.heap.size + 1) s (by unfold maxLen; omega) W0 (by omega) hB1.cell (hG.next hb0))
    Keeps2.trans (keeps2_b (by omega) hG.pos hb0.size) (Below.refl _ _) (fun _ => rfl)
    (fun pre W => Boxed W w.heap.size 4 (.bool false) ∧ Boxed W (w.heap.size + 1) 9 (.string s) ∧ (∀ y ∈ pre, okItem y = true) ∧ Below w.heap.size w W)
    (fun c pre W => (c = .ret ∧ (∃ x ∈ pre, okItem x = false) ∧ Boxed W w.heap.size 4 (.bool false)) ∧ Below w.heap.size w W)
    ((Own.from (boxed_own _ _ _) _).and ((Own.from (boxed_own _ _ _) _).and ((ownFrom_pure _ _).and (ownFrom_below (Nat.le_refl _) (by omega)))))
    (fun c => OwnFrom.and (Own.from (fun s A B row hs hg hr => ⟨hs.1, hs.2.1, boxed_keep hs.2.2 hg hr⟩) _) (ownFrom_below (Nat.le_refl _) (by omega)))
    ⟨hB0, hB1, by simp, hb0⟩
    (fun x => { tmps := #[.string s, undef, .pointer (some ⟨w.heap.size, 0, none⟩), .int .i64 (x.1 : Int), .int .i32 x.2, .string s, .func (.func 46) #[] #[.pointer (some ⟨w.heap.size + 1, 0, none⟩)], .int .i64 (x.1 : Int), .int .i32 x.2, undef, undef, undef, undef, undef, undef, undef, undef, undef, undef, undef, undef, undef, undef, undef, undef, undef, undef, undef, undef, undef, undef, undef], defers := [] }) ?assign ?body ?done ?stop
  case assign =>
    intro l x W K hK
    gi_wp2
    exact hK
  case body =>
    rintro l pre ⟨xi, xc⟩ W ⟨h0, h1, hp, hB⟩ hlen
    have hGW : Rng W := hG.next hB
    have bad : ∀ (a : Act) W', Below W.heap.size W W' → okItem (xi, xc) = false → ownPostK (Keeps2 (w.heap.size + 1))
        (fun pre W => Boxed W w.heap.size 4 (.bool false) ∧ Boxed W (w.heap.size + 1) 9 (.string s) ∧ (∀ y ∈ pre, okItem y = true) ∧ Below w.heap.size w W)
        (fun c pre W => (c = .ret ∧ (∃ x ∈ pre, okItem x = false) ∧ Boxed W w.heap.size 4 (.bool false)) ∧ Below w.heap.size w W)
        (pre ++ [(xi, xc)]) W Exit.ret a (W'.setCell ⟨w.heap.size, 0, none⟩ (.bool false)) := fun _ W' hb hbad =>
      ⟨(keepsOthers_of_below hb).trans (KeepsOthers.setCell _ _ _), ⟨rfl, ⟨(xi, xc), by simp, hbad⟩, (boxed_below h0 hb).set _⟩, (hB.trans (hb.mono hB.size)).setCell (Nat.le_refl _) _⟩
    have good : ∀ W', Below W.heap.size W W' → okItem (xi, xc) = true → KeepsOthers W W' ∧ Keeps2 (w.heap.size + 1) W W' ∧
        (Boxed W' w.heap.size 4 (.bool false) ∧ Boxed W' (w.heap.size + 1) 9 (.string s) ∧ (∀ y ∈ pre ++ [(xi, xc)], okItem y = true) ∧ Below w.heap.size w W') := fun W' hb hgood =>
      ⟨keepsOthers_of_below hb, Keeps2.of_below hb h1.lt (by have := h1.lt; omega), boxed_below h0 hb, boxed_below h1 hb, fun y hy => (List.mem_append.1 hy).elim (hp y) (fun e => by simp at e; subst e; exact hgood), hB.trans (hb.mono hB.size)⟩
    have Hbad := Lib.hid bad
    have Hgood := Lib.hid good
    clear bad good
    have hc0 := h0.cell
    have hf0 := h0.frozen
    by_cases hx : xc < 0
    · have dx : decide (xc < 0) = true := decide_eq_true hx
      gi_wp2
      refine ⟨trivial, ?_⟩
      gi_wp2
      all_goals first | (exfalso; have hh := ‹some undef = some (Value.bool _)›; simp [undef] at hh; done) | (refine ⟨trivial, ?_⟩; gi_wp2; exact Hbad.out _ W (Below.refl _ _) (by simp [okItem]; omega))
    · have hx' : 0 ≤ xc := by omega
      have hx2 : Hid (0 ≤ xc) := Lib.hid hx'
      have dx : decide (xc < 0) = false := decide_eq_false hx
      clear hx
      cases hi : Ch.inner xc with
      | false =>
        have HI : Hid _ := Lib.hid hi
        clear hi
        gi_wp2_with (refine ⟨trivial, ?_⟩; gi_at_call 14; refine (CallsIn.inRound l (callsIn_wide.2 (f14_any _ _ hGW))).mono ?_; rintro e w1 ⟨rfl, hb1⟩; rw [HI.out]; have hc1 := (boxed_below h0 hb1).cell; have hf1 := (boxed_below h0 hb1).frozen)
        all_goals first | (exfalso; have hh := ‹some undef = some (Value.bool _)›; simp [undef] at hh; done) | (refine ⟨trivial, ?_⟩; gi_wp2; exact Hbad.out _ w1 hb1 (by simp [okItem, HI.out]))
      | true =>
        have HI : Hid _ := Lib.hid hi
        clear hi
        by_cases h00 : xi = 0
        · subst h00
          cases hf : Ch.first xc with
          | false =>
            have HF : Hid _ := Lib.hid hf
            clear hf
            gi_wp2_with (first
              | (refine ⟨trivial, ?_⟩; gi_at_call 14; refine (CallsIn.inRound l (callsIn_wide.2 (f14_any _ _ hGW))).mono ?_; rintro e w1 ⟨rfl, hb1⟩; rw [HI.out])
              | (refine ⟨trivial, ?_⟩; gi_at_call 12; refine (CallsIn.inRound l (callsIn_wide.2 (f12_any _ _ (hGW.next hb1)))).mono ?_; rintro e w2 ⟨rfl, hb2⟩; rw [HF.out]; have hb3 := hb1.trans (hb2.mono hb1.size); have hc1 := (boxed_below h0 hb3).cell; have hf1 := (boxed_below h0 hb3).frozen))
            exact Hbad.out _ w2 hb3 (by simp [okItem, HF.out])
          | true =>
            have HF : Hid _ := Lib.hid hf
            clear hf
            gi_wp2_with (first
              | (refine ⟨trivial, ?_⟩; gi_at_call 14; refine (CallsIn.inRound l (callsIn_wide.2 (f14_any _ _ hGW))).mono ?_; rintro e w1 ⟨rfl, hb1⟩; rw [HI.out])
              | (refine ⟨trivial, ?_⟩; gi_at_call 12; refine (CallsIn.inRound l (callsIn_wide.2 (f12_any _ _ (hGW.next hb1)))).mono ?_; rintro e w2 ⟨rfl, hb2⟩; rw [HF.out]))
            exact Hgood.out w2 (hb1.trans (hb2.mono hb1.size)) (by simp [okItem, HF.out, HI.out, hx2.out])
        · have d : ((xi : Int) == 0) = false := beq_eq_false_iff_ne.2 (by omega)
          have d' : (xi == 0) = false := beq_eq_false_iff_ne.2 h00
          have d'' : decide (xi = 0) = false := decide_eq_false h00
          have d3 : decide ((xi : Int) = 0) = false := decide_eq_false (by omega)
          have HN : Hid _ := Lib.hid h00
          clear h00
          gi_wp2_with (refine ⟨trivial, ?_⟩; gi_at_call 14; refine (CallsIn.inRound l (callsIn_wide.2 (f14_any _ _ hGW))).mono ?_; rintro e w1 ⟨rfl, hb1⟩; rw [HI.out])
          iterate 2 (try (refine ⟨trivial, ?_⟩; gi_wp2))
          exact Hgood.out w1 hb1 (by simp [okItem, HN.out, HI.out, hx2.out])
  case done =>
    rintro D xs W hD rfl ⟨h0, h1, hp, hB⟩ hK
    have hc0 := h0.cell
    have hf0 := h0.frozen
    have hall : (items s).all okItem = true := List.all_eq_true.2 hp
    by_cases hz : s.size = 0
    · have he := isEmpty_yes hz
      have hw : localB s = false := by simp [localB, hz]
      clear hz
      gi_wp2
      have hK' := (KeepsOthers.setCell W ⟨w.heap.size, 0, none⟩ (.bool false)).same D _ hK rfl
      refine ⟨by simp, .inl ⟨_, _, rfl, run_takeDeferred hK', ?_⟩⟩
      have q0 := (boxed_keep (h0.set (.bool false)) (grownBy_putObj' _ D (.deferred none)) (fun r e => by cases e; exact ⟨_, hK', rfl⟩)).cell
      refine ⟨.bool false, ?_, by rw [hw], ?_⟩
      · simp [results, Tryd.f16, go_sem, q0]
      · exact (hB.setCell (Nat.le_refl _) _).trans (belowK_b (w := w) (Nat.le_refl _) _ D _ _ (by omega) hK' rfl rfl)
    · have he := isEmpty_no (Nat.pos_of_ne_zero hz)
      by_cases hl : s.size ≤ 200
      · have hw : localB s = true := by simp only [localB, hall, Bool.true_and, Bool.and_eq_true, decide_eq_true_eq]; exact ⟨hz, hl⟩
        have dl : decide ((s.size : Int) ≤ 200) = true := decide_eq_true (by omega)
        clear hz
        gi_wp2
        have hK' := (KeepsOthers.setCell W ⟨w.heap.size, 0, none⟩ (.bool true)).same D _ hK rfl
        refine ⟨by simp, .inl ⟨_, _, rfl, run_takeDeferred hK', ?_⟩⟩
        have q0 := (boxed_keep (h0.set (.bool true)) (grownBy_putObj' _ D (.deferred none)) (fun r e => by cases e; exact ⟨_, hK', rfl⟩)).cell
        refine ⟨.bool true, ?_, by rw [hw], ?_⟩
        · simp [results, Tryd.f16, go_sem, q0]
        · exact (hB.setCell (Nat.le_refl _) _).trans (belowK_b (w := w) (Nat.le_refl _) _ D _ _ (by omega) hK' rfl rfl)
      · have hw : localB s = false := by simp [localB, hl]
        have hl' : 200 < s.size := by omega
        have dl : decide ((s.size : Int) ≤ 200) = false := decide_eq_false (by omega)
        clear hz hl
        gi_wp2
        have hK' := (KeepsOthers.setCell W ⟨w.heap.size, 0, none⟩ (.bool false)).same D _ hK rfl
        refine ⟨by simp, .inl ⟨_, _, rfl, run_takeDeferred hK', ?_⟩⟩
        have q0 := (boxed_keep (h0.set (.bool false)) (grownBy_putObj' _ D (.deferred none)) (fun r e => by cases e; exact ⟨_, hK', rfl⟩)).cell
        refine ⟨.bool false, ?_, by rw [hw], ?_⟩
        · simp [results, Tryd.f16, go_sem, q0]
        · exact (hB.setCell (Nat.le_refl _) _).trans (belowK_b (w := w) (Nat.le_refl _) _ D _ _ (by omega) hK' rfl rfl)
  case stop =>
    rintro D c pre W hD hpre ⟨⟨rfl, ⟨x, hx, hbad⟩, h0⟩, hB⟩ hK
    have hw : localB s = false := by
      have : (items s).all okItem = false := List.all_eq_false.2 ⟨x, hpre.subset hx, by rw [hbad]; decide⟩
      simp [localB, this]
    gi_wp2
    refine ⟨by simp, .inl ⟨_, _, rfl, run_takeDeferred hK, ?_⟩⟩
    have q0 := (boxed_keep h0 (grownBy_putObj' _ D (.deferred none)) (fun r e => by cases e; exact ⟨_, hK, rfl⟩)).cell
    refine ⟨.bool false, ?_, by rw [hw], ?_⟩
    · simp [results, Tryd.f16, go_sem, q0]
    · exact hB.trans (belowK_b (w := w) (Nat.le_refl _) _ D _ _ (by omega) hK rfl rfl)
theorem f16_any (s : ByteArray) (hs : s.size ≤ 1000000) (w : World) (hG : Rng w) : Calls Tryd.prog 16 #[.string s] w fun e w' => e = .returned (.bool (localB s)) ∧ Below w.heap.size w w' := callsIn_wide.1 (f16_in s hs w hG)
end Go.Proofs.YtllnfiidmpopkaaDoor
