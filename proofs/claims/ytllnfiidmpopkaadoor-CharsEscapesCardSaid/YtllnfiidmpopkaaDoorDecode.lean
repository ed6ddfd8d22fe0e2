/-
  What Decode of the program returns. Conditions: the string's size, the program's table of ranges.
-/
import Derived.Test.YtllnfiidmpopkaaDoorAll
import Derived.Maps.AppendAt
namespace Go.Proofs.YtllnfiidmpopkaaDoor
open Go Go.RowKit Go.Shelf
attribute [local go_sem] Oper.semAt_some

theorem Tryd.info21 : (Tryd.prog.info? 21).map (fun i => (i.zero, i.size, i.bytes)) = some (some (.int .i32 0), 1, 4) := by kernel_rfl
/-- Characters as values. -/
def i32s (l : List Int) : List Value := l.map fun n : Int => Value.int .i32 n
/-- What has come, as characters. -/
def seconds (l : List (Nat × Int)) : List Int := l.map (·.2)
theorem i32s_length (l : List Int) : (i32s l).length = l.length := List.length_map _
theorem seconds_length (l : List (Nat × Int)) : (seconds l).length = l.length := List.length_map _

theorem keepsOthers_of_below {w w' : World} (h : Below w.heap.size w w') : KeepsOthers w w' := KeepsOthers.of_grownBy (grown_of_below h) (fun _ _ e _ => by cases e)

/-- A block that is neither the row nor the box lies as it lay behind 'out = append(out, ..)'. -/
theorem heap_appended {W w1 : World} {B k : Nat} {v v' : Value} {tmp : Obj} (hk : k < W.heap.size) (hr : some k ≠ v.ownBlock) (hB : k ≠ B) (hgrow : (W.alloc tmp).grownBy w1 v.ownBlock) : (w1.setCell ⟨B, 0, none⟩ v').heap[k]? = W.heap[k]? :=
  (Below.heap_setCell w1 ⟨B, 0, none⟩ v' k hB).trans ((hgrow.block k (by simp; omega) hr).trans (Below.heap_alloc W tmp k hk))
theorem row_ge {W : World} {base e size n : Nat} {v : Value} {xs : List Value} (h : W.ownsRow base e size v n xs) (k : Nat) (hk : k < base) : some k ≠ v.ownBlock := by
  rcases h.2 with ⟨rfl, _⟩ | ⟨g, cap, cur, rfl, hb, _⟩
  · simp [Value.ownBlock]
  · simp [Value.ownBlock]; omega
theorem row_slice {W : World} {base e size n : Nat} {v : Value} {xs : List Value} (h : W.ownsRow base e size v n xs) : ∃ a cap, v = .slice a n cap := by
  rcases h.2 with ⟨rfl, rfl⟩ | ⟨g, cap, cur, rfl, _⟩
  · exact ⟨_, _, rfl⟩
  · exact ⟨_, _, rfl⟩

theorem boxed_keep {X Y : World} {row : Option Nat} {B : Nat} {t : TypeId} {v : Value} (hs : Boxed X B t v) (hg : X.grownBy Y row) (hrow : ∀ r, row = some r → ∃ o : Obj, X.heap[r]? = some o ∧ o.isCells = false) : Boxed Y B t v :=
  boxed_own (β := Unit) B t (fun _ => v) () X Y row hs hg hrow
set_option maxRecDepth 100000 in
set_option maxHeartbeats 1000000 in
theorem f24_in (s : ByteArray) (hs : s.size ≤ 1000000) (w : World) (hG : Rng w) : CallsIn Fence.wide 9 Tryd.prog 24 #[.string s] w fun e w' =>
    ((∃ v, wrongI s = -1 ∧ e = .returned (.tuple #[v, .int .i64 0, .int .i64 0]) ∧ w'.ownsRow w.heap.size 21 1 v (items s).length (i32s (seconds (items s)))) ∨ (0 ≤ wrongI s ∧ e = .returned (.tuple #[.slice none 0 0, .int .i64 (wrongI s), .int .i64 6]))) ∧ Below w.heap.size w w' := by
  refine callsIn_of_wp_marks Tryd.func24 rfl trivial ?_ rfl
  simp only [Tryd.ntmps24, List.size_toArray, List.length_cons, List.length_nil, Nat.reduceAdd, Nat.reduceSub, Array.replicate_succ, Array.replicate_zero, List.push_toArray, List.append_toArray, List.nil_append, List.cons_append]
  gi_wp2_with (refine ⟨trivial, ?_⟩; gi_at_call 30; refine (callsIn_wide.2 (f30_any _ _)).mono ?_; rintro e w1 ⟨rfl, rfl⟩)
  obtain ⟨W0, hW0⟩ : ∃ W0, ((((w.alloc (.cells #[.slice none 0 0] 33)).alloc (.cells #[.int .i64 0] 3)).alloc (.cells #[.int .i64 0] 26)).alloc (.cells #[.slice none 0 0] 33)).alloc (.cells #[.string s] 9) = W0 := ⟨_, rfl⟩
  have hs0 : W0.heap.size = w.heap.size + 5 := by rw [← hW0]; simp
  have hB0 : Boxed W0 w.heap.size 33 (.slice none 0 0) := by rw [← hW0]; exact ((((Boxed.new w 33 _).alloc _).alloc _).alloc _).alloc _
  have hB1 : Boxed W0 (w.heap.size + 1) 3 (.int .i64 0) := by
    rw [← hW0]; have := Boxed.new (w.alloc (.cells #[.slice none 0 0] 33)) 3 (.int .i64 0); rw [World.size_alloc] at this; exact ((this.alloc _).alloc _).alloc _
  have hB2 : Boxed W0 (w.heap.size + 1 + 1) 26 (.int .i64 0) := by
    rw [← hW0]; have := Boxed.new ((w.alloc (.cells #[.slice none 0 0] 33)).alloc (.cells #[.int .i64 0] 3)) 26 (.int .i64 0); rw [World.size_alloc, World.size_alloc] at this; exact (this.alloc _).alloc _
  have hB3 : Boxed W0 (w.heap.size + 1 + 1 + 1) 33 (.slice none 0 0) := by
    rw [← hW0]; have := Boxed.new (((w.alloc (.cells #[.slice none 0 0] 33)).alloc (.cells #[.int .i64 0] 3)).alloc (.cells #[.int .i64 0] 26)) 33 (.slice none 0 0); rw [World.size_alloc, World.size_alloc, World.size_alloc] at this; exact this.alloc _
  have hB4 : Boxed W0 (w.heap.size + 1 + 1 + 1 + 1) 9 (.string s) := by
    rw [← hW0]; have := Boxed.new ((((w.alloc (.cells #[.slice none 0 0] 33)).alloc (.cells #[.int .i64 0] 3)).alloc (.cells #[.int .i64 0] 26)).alloc (.cells #[.slice none 0 0] 33)) 9 (.string s); rw [World.size_alloc, World.size_alloc, World.size_alloc, World.size_alloc] at this; exact this
  have hb0 : Below w.heap.size w W0 := by rw [← hW0]; exact (((((Below.refl _ w).alloc (Nat.le_refl _) _).alloc (by simp) _).alloc (by simp; omega) _).alloc (by simp; omega) _).alloc (by simp; omega) _
  rw [hW0]
  clear hW0
  obtain ⟨i0, hi, hz0, hz1, hz2⟩ := info_parts Tryd.info21
  refine wpIn_rangeFunc_ownF rfl (by decide) (gf := 46) (lb := #[.pointer (some ⟨w.heap.size + 1 + 1 + 1 + 1, 0, none⟩)]) rfl trivial (enters_of Tryd.func46 (by kernel_rfl) rfl)
    (all_stops 8 (by decide) (w.heap.size + 1 + 1 + 1 + 1) s (by unfold maxLen; omega) W0 (by omega) hB4.cell (hG.next hb0))
    Keeps2.trans (keeps2_b (by omega) hG.pos hb0.size) (Below.refl _ _) (fun _ => rfl)
    (fun pre W => Boxed W (w.heap.size + 1 + 1 + 1 + 1) 9 (.string s) ∧ Boxed W w.heap.size 33 (.slice none 0 0) ∧ Boxed W (w.heap.size + 1) 3 (.int .i64 0) ∧ Boxed W (w.heap.size + 1 + 1) 26 (.int .i64 0) ∧
      (∃ v, Boxed W (w.heap.size + 1 + 1 + 1) 33 v ∧ W.ownsRow w.heap.size 21 1 v pre.length (i32s (seconds pre)) ∧ True) ∧ (∀ y ∈ pre, 0 ≤ y.2) ∧ Below w.heap.size w W)
    (fun c pre W => (c = .ret ∧ ∃ pre' x, pre = pre' ++ [x] ∧ (∀ y ∈ pre', 0 ≤ y.2) ∧ x.2 < 0 ∧ Boxed W w.heap.size 33 (.slice none 0 0) ∧ Boxed W (w.heap.size + 1) 3 (.int .i64 (x.1 : Int)) ∧ Boxed W (w.heap.size + 1 + 1) 26 (.int .i64 6)) ∧ Below w.heap.size w W)
    ((Own.from (boxed_own _ _ _) _).and ((Own.from (boxed_own _ _ _) _).and ((Own.from (boxed_own _ _ _) _).and ((Own.from (boxed_own _ _ _) _).and ((Own.from (holdsRow_own _ _ _ _ _ _ _ (fun _ _ => True)) _).and ((ownFrom_pure _ _).and (ownFrom_below (Nat.le_refl _) (by omega))))))))
    (fun c => OwnFrom.and (Own.from (fun s A B row hs hg hr => by
      obtain ⟨h1, p, x, h2, h3, h4, h5, h6, h7⟩ := hs
      exact ⟨h1, p, x, h2, h3, h4, boxed_keep h5 hg hr, boxed_keep h6 hg hr, boxed_keep h7 hg hr⟩) _) (ownFrom_below (Nat.le_refl _) (by omega)))
    ⟨hB4, hB0, hB1, hB2, ⟨_, hB3, ⟨rfl, .inl ⟨rfl, rfl⟩⟩, trivial⟩, by simp, hb0⟩
    (fun x => { tmps := #[.string s, undef, .pointer (some ⟨w.heap.size, 0, none⟩), .pointer (some ⟨w.heap.size + 1, 0, none⟩), .pointer (some ⟨w.heap.size + 1 + 1, 0, none⟩), .pointer (some ⟨w.heap.size + 1 + 1 + 1, 0, none⟩), .int .i64 (x.1 : Int), .int .i32 x.2, .string s, .func (.func 46) #[] #[.pointer (some ⟨w.heap.size + 1 + 1 + 1 + 1, 0, none⟩)], .int .i64 (x.1 : Int), .int .i32 x.2, undef, undef, undef, undef, undef, undef, undef, undef], defers := [] }) ?assign ?body ?done ?stop
  case assign =>
    intro l x W K hK
    gi_wp2
    exact hK
  case body =>
    rintro l pre ⟨xi, xc⟩ W ⟨h4, h0, h1, h2, ⟨v, h3, hrow, _⟩, hp, hB⟩ hlen
    have hc0 := h0.cell
    have hc1 := h1.cell
    have hc2 := h2.cell
    have hc3 := h3.cell
    have hf0 := h0.frozen
    have hf1 := h1.frozen
    have hf2 := h2.frozen
    have hlt := h3.lt
    by_cases hx : xc < 0
    · gi_wp2
      refine ⟨((KeepsOthers.setCell _ _ _).trans (KeepsOthers.setCell _ _ _)).trans (KeepsOthers.setCell _ _ _), ⟨rfl, pre, (xi, xc), rfl, hp, hx, ?_, ?_, ?_⟩, ((hB.setCell (Nat.le_refl _) _).setCell (p := ⟨w.heap.size + 1, 0, none⟩) (by simp) _).setCell (p := ⟨w.heap.size + 1 + 1, 0, none⟩) (by simp; omega) _⟩
      · exact ((h0.set _).other (by omega) _).other (by omega) _
      · exact ((h1.other (by omega) _).set _).other (by omega) _
      · exact ((h2.other (by omega) _).other (by omega) _).set _
    · have hx' : 0 ≤ xc := by omega
      clear hx
      gi_wp2_with (gi_at_builtin; refine wpListIn_append_own _ rfl _ _ 33 rfl w.heap.size 21 i0 (.int .i32 0) 1 4 Tryd.underlying33 hi hz0 hz1 hz2 rfl (by decide) v pre.length (i32s (seconds pre)) rfl (hrow.alloc _) ⟨W.heap.size, 0, none⟩ 1 1 [.int .i32 xc] rfl rfl (cell_one_new _ _ _) (by simp [Value.oneCell']) (by unfold maxLen; omega) (by omega) (by have := hB.size; simp; omega) ?_; intro v' w1 hown' hgrow _; obtain ⟨g', cap', rfl⟩ := ownsRow_succ hown'; obtain ⟨hv1, hv2, hr2, hk2, hb2⟩ := h3.appended (by decide) hrow hB.size (by omega) hown' hgrow; have hcv := hv1.cell; have hfv := hv1.frozen)
      refine ⟨hk2, ⟨heap_appended h4.lt (h4.not_row (by decide) hrow) (by omega) hgrow, heap_appended (by omega) (row_ge hrow 0 hG.pos) (by omega) hgrow, ?_⟩, ?_⟩
      · exact hk2.1
      · refine ⟨(heap_appended h4.lt (h4.not_row (by decide) hrow) (by omega) hgrow).trans h4, (heap_appended h0.lt (h0.not_row (by decide) hrow) (by omega) hgrow).trans h0, (heap_appended h1.lt (h1.not_row (by decide) hrow) (by omega) hgrow).trans h1, (heap_appended h2.lt (h2.not_row (by decide) hrow) (by omega) hgrow).trans h2, ⟨_, hv2, ?_, trivial⟩, ?_, hB.trans hb2⟩
        · simpa [i32s, seconds] using hr2
        · intro y hy
          rcases List.mem_append.1 hy with h | h
          · exact hp y h
          · simp at h; subst h; exact hx'
  case done =>
    rintro D xs W hD rfl ⟨h4, h0, h1, h2, ⟨v, h3, hrow, _⟩, hp, hB⟩ hK
    have hw : wrongI s = -1 := by
      unfold wrongI
      rw [List.find?_eq_none.2 (fun y hy => by have := hp y hy; simp; omega)]
    obtain ⟨va, vcap, rfl⟩ := row_slice hrow
    have hc0 := h0.cell
    have hc1 := h1.cell
    have hc2 := h2.cell
    have hc3 := h3.cell
    have hf0 := h0.frozen
    have hf1 := h1.frozen
    have hf2 := h2.frozen
    gi_wp2
    obtain ⟨W1, hW1⟩ : ∃ W1, W.setCell ⟨w.heap.size, 0, none⟩ (.slice va (items s).length vcap) = W1 := ⟨_, rfl⟩
    obtain ⟨W2, hW2⟩ : ∃ W2, W1.setCell ⟨w.heap.size + 1, 0, none⟩ (.int .i64 0) = W2 := ⟨_, rfl⟩
    obtain ⟨W3, hW3⟩ : ∃ W3, W2.setCell ⟨w.heap.size + 1 + 1, 0, none⟩ (.int .i64 0) = W3 := ⟨_, rfl⟩
    rw [hW1, hW2, hW3]
    have r1 : W1.ownsRow w.heap.size 21 1 (.slice va (items s).length vcap) (items s).length (i32s (seconds (items s))) := by rw [← hW1]; exact hrow.kept (grownBy_setCell' _ _ _) (.inr (h0.not_row (by decide) hrow).symm)
    have a0 : Boxed W1 w.heap.size 33 (.slice va (items s).length vcap) := by rw [← hW1]; exact h0.set _
    have a1 : Boxed W1 (w.heap.size + 1) 3 (.int .i64 0) := by rw [← hW1]; exact h1.other (by omega) _
    have a2 : Boxed W1 (w.heap.size + 1 + 1) 26 (.int .i64 0) := by rw [← hW1]; exact h2.other (by omega) _
    have r2 : W2.ownsRow w.heap.size 21 1 (.slice va (items s).length vcap) (items s).length (i32s (seconds (items s))) := by rw [← hW2]; exact r1.kept (grownBy_setCell' _ _ _) (.inr (a1.not_row (by decide) r1).symm)
    have b0 : Boxed W2 w.heap.size 33 (.slice va (items s).length vcap) := by rw [← hW2]; exact a0.other (by omega) _
    have b1 : Boxed W2 (w.heap.size + 1) 3 (.int .i64 0) := by rw [← hW2]; exact a1.set _
    have b2 : Boxed W2 (w.heap.size + 1 + 1) 26 (.int .i64 0) := by rw [← hW2]; exact a2.other (by omega) _
    have r3 : W3.ownsRow w.heap.size 21 1 (.slice va (items s).length vcap) (items s).length (i32s (seconds (items s))) := by rw [← hW3]; exact r2.kept (grownBy_setCell' _ _ _) (.inr (b2.not_row (by decide) r2).symm)
    have c0 : Boxed W3 w.heap.size 33 (.slice va (items s).length vcap) := by rw [← hW3]; exact b0.other (by omega) _
    have c1 : Boxed W3 (w.heap.size + 1) 3 (.int .i64 0) := by rw [← hW3]; exact b1.other (by omega) _
    have c2 : Boxed W3 (w.heap.size + 1 + 1) 26 (.int .i64 0) := by rw [← hW3]; exact b2.set _
    have hK' : W3.heap[D]? = some (.deferred (some [])) := by
      rw [← hW3, ← hW2, ← hW1]
      exact (((KeepsOthers.setCell _ _ _).trans (KeepsOthers.setCell _ _ _)).trans (KeepsOthers.setCell _ _ _)).same D _ hK rfl
    have hB3 : Below w.heap.size w W3 := by
      rw [← hW3, ← hW2, ← hW1]
      exact ((hB.setCell (Nat.le_refl _) _).setCell (p := ⟨w.heap.size + 1, 0, none⟩) (by simp) _).setCell (p := ⟨w.heap.size + 1 + 1, 0, none⟩) (by simp; omega) _
    clear hW1 hW2 hW3 hc0 hc1 hc2 hc3 hf0 hf1 hf2
    refine ⟨by simp, .inl ⟨_, _, rfl, run_takeDeferred hK', ?_⟩⟩
    have q0 := (boxed_keep c0 (grownBy_putObj' _ D (.deferred none)) (fun r e => by cases e; exact ⟨_, hK', rfl⟩)).cell
    have q1 := (boxed_keep c1 (grownBy_putObj' _ D (.deferred none)) (fun r e => by cases e; exact ⟨_, hK', rfl⟩)).cell
    have q2 := (boxed_keep c2 (grownBy_putObj' _ D (.deferred none)) (fun r e => by cases e; exact ⟨_, hK', rfl⟩)).cell
    refine ⟨.tuple #[.slice va (items s).length vcap, .int .i64 0, .int .i64 0], ?_, .inl ⟨_, hw, rfl, ownsRow_putObj r3 _ hK' rfl⟩, ?_⟩
    · simp [results, Tryd.f24, go_sem, q0, q1, q2]
    · exact hB3.trans (belowK_b (w := w) (Nat.le_refl _) _ D _ _ (by omega) hK' rfl rfl)
  case stop =>
    rintro D c pre W hD hpre ⟨⟨rfl, pre', x, rfl, hp, hx, h0, h1, h2⟩, hB⟩ hK
    have hw : wrongI s = x.1 := by
      unfold wrongI
      obtain ⟨t, ht⟩ := hpre
      rw [← ht, List.append_assoc, List.find?_append, List.find?_eq_none.2 (fun y hy => by have := hp y hy; simp; omega)]
      simp [hx]
    gi_wp2
    refine ⟨by simp, .inl ⟨_, _, rfl, run_takeDeferred hK, ?_⟩⟩
    have q0 := (boxed_keep h0 (grownBy_putObj' _ D (.deferred none)) (fun r e => by cases e; exact ⟨_, hK, rfl⟩)).cell
    have q1 := (boxed_keep h1 (grownBy_putObj' _ D (.deferred none)) (fun r e => by cases e; exact ⟨_, hK, rfl⟩)).cell
    have q2 := (boxed_keep h2 (grownBy_putObj' _ D (.deferred none)) (fun r e => by cases e; exact ⟨_, hK, rfl⟩)).cell
    refine ⟨.tuple #[.slice none 0 0, .int .i64 x.1, .int .i64 6], ?_, .inr ⟨by omega, by rw [hw]⟩, ?_⟩
    · simp [results, Tryd.f24, go_sem, q0, q1, q2]
    · exact hB.trans (belowK_b (w := w) (Nat.le_refl _) _ D _ _ (by omega) hK rfl rfl)
theorem f24_any (s : ByteArray) (hs : s.size ≤ 1000000) (w : World) (hG : Rng w) : Calls Tryd.prog 24 #[.string s] w fun e w' =>
    ((∃ v, wrongI s = -1 ∧ e = .returned (.tuple #[v, .int .i64 0, .int .i64 0]) ∧ w'.ownsRow w.heap.size 21 1 v (items s).length (i32s (seconds (items s)))) ∨ (0 ≤ wrongI s ∧ e = .returned (.tuple #[.slice none 0 0, .int .i64 (wrongI s), .int .i64 6]))) ∧ Below w.heap.size w w' := callsIn_wide.1 (f24_in s hs w hG)
end Go.Proofs.YtllnfiidmpopkaaDoor
