/-
  A range over the characters of a string: what the program's 'all' yields. Conditions: the string's size, the program's table of ranges.
-/
import Derived.RangeFuncNested
import Derived.RangeFuncBound
import Derived.RangeFuncCalls
import Derived.RangeFuncLeaves
import Derived.Shelf.Abstract
import Derived.Shelf.RegionOpen
import Derived.WalkKit
import Derived.OwnWalkIn
import Derived.TacticsInMore
import Derived.LoopNIn
import Derived.LoopIn
import Derived.Test.YtllnfiidmpopkaaDoorFirst
namespace Go.Proofs.YtllnfiidmpopkaaDoor
open Go Go.RowKit Go.Shelf
attribute [local go_sem] Oper.semAt_some

/-- The characters of a string with their places. -/
def items (s : ByteArray) : List (Nat × Int) := Ch.items (s.size + 1) (bts s) 0

theorem bts_from (s : ByteArray) (p : Nat) : bts (s.extract p s.size) = (bts s).drop p := by
  rw [bts_extract, List.take_of_length_le (by rw [bts_length]; exact Nat.le_refl _)]

/-- What a round must keep: the string's box, the table of ranges. -/
def Keeps2 (b : Nat) (W W' : World) : Prop := W'.heap[b]? = W.heap[b]? ∧ W'.heap[0]? = W.heap[0]? ∧ W.heap.size ≤ W'.heap.size
theorem Keeps2.refl (b : Nat) (W : World) : Keeps2 b W W := ⟨rfl, rfl, Nat.le_refl _⟩
theorem Keeps2.trans {b : Nat} {A B C : World} (h : Keeps2 b A B) (k : Keeps2 b B C) : Keeps2 b A C := ⟨k.1.trans h.1, k.2.1.trans h.2.1, Nat.le_trans h.2.2 k.2.2⟩
theorem Keeps2.of_below {b N : Nat} {A B : World} (h : Below N A B) (hb : b < N) (h0 : 0 < N) : Keeps2 b A B := ⟨h.block b hb, h.block 0 h0, h.size⟩
theorem Keeps2.rng {b : Nat} {A B : World} (h : Keeps2 b A B) (hr : Rng A) : Rng B := by
  obtain ⟨T, fr, hR⟩ := hr
  exact ⟨T, fr, h.2.1.trans hR⟩
theorem Keeps2.cell {b : Nat} {A B : World} (h : Keeps2 b A B) : B.cell? ⟨b, 0, none⟩ = A.cell? ⟨b, 0, none⟩ := World.cell?_of_block (a := ⟨b, 0, none⟩) h.1
theorem grown_of_below {w w' : World} (h : Below w.heap.size w w') : w.grownBy w' none := ⟨h.os, h.tape, h.output, h.size, fun k hk _ => h.block k hk⟩
theorem items_end (f p : Nat) (l : List Nat) (h : l.length ≤ p) : Ch.items f (l.drop p) p = [] := by
  cases f with
  | zero => rfl
  | succ f => unfold Ch.items; rw [if_pos (List.drop_of_length_le h)]
theorem items_none {f p : Nat} {l : List Nat} (hp : p < l.length) (hd : Ch.dec (l.drop p) = none) : Ch.items (f + 1) (l.drop p) p = [(p, -1)] := by
  rw [Ch.items, if_neg (by intro e; have := congrArg List.length e; simp at this; omega), hd]
theorem items_some {f p c n : Nat} {l : List Nat} (hp : p < l.length) (hd : Ch.dec (l.drop p) = some (c, n)) : Ch.items (f + 1) (l.drop p) p = (p, (c : Int)) :: Ch.items f (l.drop (p + n)) (p + n) := by
  rw [Ch.items, if_neg (by intro e; have := congrArg List.length e; simp at this; omega), hd]
  simp only [List.drop_drop]

set_option maxRecDepth 100000 in
set_option maxHeartbeats 2000000 in
theorem f46_in (n : Nat) (hn : 1 ≤ n) (l Bs : Nat) (s : ByteArray) (hs : s.size ≤ maxLen) (J Jx : List (Nat × Int) → World → Prop) (W : World) (hJ : AbidesFrom W.heap.size J) (hn1 : Bs < W.heap.size)
    (hY : ∀ pre x W1, J pre W1 → pre.length < s.size + 1 → YieldAt Fence.wide (n - 1) Tryd.prog l #[.int .i64 (x.1 : Int), .int .i32 x.2] W1 fun e W' =>
      (e = .returned (.bool true) ∧ J (pre ++ [x]) W' ∧ Keeps2 Bs W1 W') ∨ (e = .returned (.bool false) ∧ Jx (pre ++ [x]) W'))
    (hBs : W.cell? ⟨Bs, 0, none⟩ = some (.string s)) (hG : Rng W) (h0 : J [] W) :
    CallsIn Fence.wide n Tryd.prog 46 #[.func (.yield l) #[] #[], .pointer (some ⟨Bs, 0, none⟩)] W fun e W' => (∃ v, e = .returned v) ∧
      ((∃ ys, ys = items s ∧ J ys W') ∨ (∃ pre, pre <+: items s ∧ Jx pre W')) := by
  have hs' := hs
  unfold maxLen at hs
  refine callsIn_of_wp Tryd.func46 rfl trivial ?_ rfl
  simp only [Tryd.ntmps46, List.size_toArray, List.length_cons, List.length_nil, Nat.reduceAdd, Nat.reduceSub, Array.replicate_succ, Array.replicate_zero, List.push_toArray, List.append_toArray, List.nil_append, List.cons_append]
  gi_wp2
  gi_loopw [3] (fun i wr => ∃ (p f : Nat) (pre : List (Nat × Int)), p ≤ s.size ∧ s.size < p + f ∧ pre.length ≤ p ∧ i = .int .i64 p ∧ Hid (items s = pre ++ Ch.items f ((bts s).drop p) p) ∧ J pre wr ∧ Keeps2 Bs W wr)
    (fun i _ => s.size - (intOf i).toNat)
  case atStart => exact ⟨0, s.size + 1, [], Nat.zero_le _, by omega, by simp, rfl, Lib.hid rfl, h0, Keeps2.refl _ _⟩
  case round =>
    obtain ⟨p, f, pre, hp, hf, hpre, rfl, hit, hJs, hnx⟩ := hrel
    have hcx : wr.cell? ⟨Bs, 0, none⟩ = some (.string s) := hnx.cell.trans hBs
    have hGr : Rng wr := hnx.rng hG
    have hsz := hnx.2.2
    by_cases hlt : p < s.size
    · have hsz' : (s.extract p s.size).size = s.size - p := by simp
      have hle : (s.extract p s.size).size ≤ maxLen := by omega
      have hpos : 0 < (s.extract p s.size).size := by omega
      obtain ⟨f, rfl⟩ : ∃ f', f = f' + 1 := ⟨f - 1, by omega⟩
      have hpl : p < (bts s).length := by rw [bts_length]; exact hlt
      clear hsz'
      cases hd : Ch.dec ((bts s).drop p) with
      | none =>
        have hd' : Ch.dec (bts (s.extract p s.size)) = none := by rw [bts_from]; exact hd
        have HD' : Hid _ := Lib.hid hd'
        have hit' : Hid (items s = pre ++ [(p, -1)]) := Lib.hid (by rw [hit.out, items_none hpl hd])
        clear hd hd' hit
        gi_wp2_with (refine ⟨trivial, ?_⟩; gi_at_call 47; refine (callsIn_wide.2 (f47_none _ _ hGr hle hpos HD'.out)).mono ?_; rintro e w1 ⟨rfl, hb1⟩; have hJ1 := hJ _ _ _ none hJs (grown_of_below hb1) (fun _ e => by cases e); obtain ⟨fn, tmps, assign, body, hy, hR⟩ := hY pre (p, -1) w1 hJ1 (by omega); dsimp only at hy)
        refine hR.mono ?_
        rintro e W3 (⟨rfl, hJ3, hk3⟩ | ⟨rfl, hJx3⟩)
        · gi_wp2
          refine bodyPost_ret (results_none rfl _ _ _) rfl ?_
          exact ⟨⟨_, rfl⟩, .inl ⟨_, hit'.out.symm, hJ3⟩⟩
        · gi_wp2
          refine bodyPost_ret (results_none rfl _ _ _) rfl ?_
          exact ⟨⟨_, rfl⟩, .inr ⟨_, by rw [hit'.out]; exact List.prefix_refl _, hJx3⟩⟩
      | some q =>
        obtain ⟨c, m⟩ := q
        have hd' : Ch.dec (bts (s.extract p s.size)) = some (c, m) := by rw [bts_from]; exact hd
        obtain ⟨hm1, hm4, hml⟩ := Ch.dec_le hd
        have hm0 : ((m : Int) == 0) = false := beq_eq_false_iff_ne.2 (by omega)
        have hpm : p + m ≤ s.size := by simp only [List.length_drop, bts_length] at hml; omega
        have HD' : Hid _ := Lib.hid hd'
        have hit' : Hid (items s = (pre ++ [(p, (c : Int))]) ++ Ch.items f ((bts s).drop (p + m)) (p + m)) := Lib.hid (by rw [hit.out, items_some hpl hd]; simp)
        clear hd hd' hit hml
        gi_wp2_with (refine ⟨trivial, ?_⟩; gi_at_call 47; refine (callsIn_wide.2 (f47_some _ _ hGr hle c m HD'.out)).mono ?_; rintro e w1 ⟨rfl, hb1⟩; have hJ1 := hJ _ _ _ none hJs (grown_of_below hb1) (fun _ e => by cases e); obtain ⟨fn, tmps, assign, body, hy, hR⟩ := hY pre (p, (c : Int)) w1 hJ1 (by omega); dsimp only at hy)
        refine hR.mono ?_
        rintro e W3 (⟨rfl, hJ3, hk3⟩ | ⟨rfl, hJx3⟩)
        · gi_wp2
          go_roundw
          case rel => exact ⟨p + m, f, pre ++ [(p, (c : Int))], by omega, by omega, by simp; omega, by simp, hit', hJ3, (hnx.trans (Keeps2.of_below hb1 (by omega) (by omega))).trans hk3⟩
          case measure => simp [intOf]; omega
        · gi_wp2
          refine bodyPost_ret (results_none rfl _ _ _) rfl ?_
          exact ⟨⟨_, rfl⟩, .inr ⟨_, by rw [hit'.out]; exact List.prefix_append _ _, hJx3⟩⟩
    · have hpe : p = s.size := by omega
      have hit' : items s = pre := by rw [hit.out, items_end f p _ (by rw [bts_length]; omega), List.append_nil]
      have HI : Hid _ := Lib.hid hit'
      clear hit' hit hpe
      gi_wp2
      go_end0
      exact ⟨⟨_, rfl⟩, .inl ⟨_, HI.out.symm, hJs⟩⟩

theorem all_stops (n : Nat) (hn : 1 ≤ n) (Bs : Nat) (s : ByteArray) (hs : s.size ≤ maxLen) (w : World) (hB : Bs < w.heap.size) (hBs : w.cell? ⟨Bs, 0, none⟩ = some (.string s)) (hG : Rng w) :
    SeqStopsK Fence.wide n Tryd.prog 46 #[.pointer (some ⟨Bs, 0, none⟩)] (fun x : Nat × Int => #[Value.int .i64 (x.1 : Int), Value.int .i32 x.2]) (Keeps2 Bs) (fun ys => ys = items s) (fun pre => pre <+: items s) (s.size + 1) w :=
  fun l J Jx W hW hJ _ hY h0 =>
    f46_in n hn l Bs s hs J Jx W hJ (Nat.lt_of_lt_of_le hB hW.size) hY ((hW.cell (p := ⟨Bs, 0, none⟩) hB).trans hBs) (hG.next hW) h0

theorem f30_any (s : ByteArray) (w : World) : Calls Tryd.prog 30 #[.string s] w fun e w' => e = .returned (.func (.func 46) #[] #[.pointer (some ⟨w.heap.size, 0, none⟩)]) ∧ w.alloc (.cells #[.string s] 9) = w' := by
  go_enter Tryd.func30, Tryd.ntmps30
  go_wp2
  go_ret
  exact ⟨rfl, rfl⟩

theorem box_cell {W : World} {b : Nat} {v : Value} {t : TypeId} (hB : W.heap[b]? = some (.cells #[v] t (0, 0))) : W.cell? ⟨b, 0, none⟩ = some v ∧ W.frozen? ⟨b, 0, none⟩ = false :=
  ⟨by simp [World.cell?, hB], by simp [World.frozen?, hB]⟩
theorem keeps2_b {b N : Nat} {w0 : World} (hb : b < N) (h0 : 0 < w0.heap.size) (hN : w0.heap.size ≤ N) (W : World) (l : Nat) (o o' : Obj) (hl : N ≤ l) (h : W.heap[l]? = some o) (_ : o.isCells = false) (_ : o.isWalk = false) : Keeps2 b W (W.putObj l o') := by
  have hg := grownBy_putObj' W l o'
  have hlt := (Array.getElem?_eq_some_iff.1 h).1
  exact ⟨hg.block b (by omega) (fun e => by cases e; omega), hg.block 0 (by omega) (fun e => by cases e; omega), hg.size⟩

/-- The first place at which there is no character; -1: the string is a text. -/
def wrongI (s : ByteArray) : Int := match (items s).find? (fun x => decide (x.2 < 0)) with | some x => (x.1 : Int) | none => -1

set_option maxRecDepth 100000 in
set_option maxHeartbeats 1000000 in
theorem f31_in (s : ByteArray) (hs : s.size ≤ maxLen) (w : World) (hG : Rng w) : CallsIn Fence.wide 9 Tryd.prog 31 #[.string s] w fun e w' => e = .returned (.int .i64 (wrongI s)) ∧ Below w.heap.size w w' := by
  refine callsIn_of_wp_marks Tryd.func31 rfl trivial ?_ rfl
  simp only [Tryd.ntmps31, List.size_toArray, List.length_cons, List.length_nil, Nat.reduceAdd, Nat.reduceSub, Array.replicate_succ, Array.replicate_zero, List.push_toArray, List.append_toArray, List.nil_append, List.cons_append]
  gi_wp2_with (refine ⟨trivial, ?_⟩; gi_at_call 30; refine (callsIn_wide.2 (f30_any _ _)).mono ?_; rintro e w1 ⟨rfl, rfl⟩)
  obtain ⟨W0, hW0⟩ : ∃ W0, (w.alloc (.cells #[.int .i64 0] 3)).alloc (.cells #[.string s] 9) = W0 := ⟨_, rfl⟩
  have hs0 : W0.heap.size = w.heap.size + 2 := by rw [← hW0]; simp
  have hB0 : W0.heap[w.heap.size]? = some (.cells #[.int .i64 0] 3 (0, 0)) := by
    rw [← hW0]; exact (Below.heap_alloc _ _ _ (by simp)).trans (World.alloc_heap_new w _)
  have hB1 : W0.heap[w.heap.size + 1]? = some (.cells #[.string s] 9 (0, 0)) := by
    rw [← hW0]; have := World.alloc_heap_new (w.alloc (.cells #[.int .i64 0] 3)) (.cells #[.string s] 9); rwa [World.size_alloc] at this
  have hb0 : Below w.heap.size w W0 := by rw [← hW0]; exact ((Below.refl _ w).alloc (Nat.le_refl _) _).alloc (by simp) _
  rw [hW0]
  clear hW0
  refine wpIn_rangeFunc_ownF rfl (by decide) (gf := 46) (lb := #[.pointer (some ⟨w.heap.size + 1, 0, none⟩)]) rfl trivial (enters_of Tryd.func46 (by kernel_rfl) rfl)
    (all_stops 8 (by decide) (w.heap.size + 1) s hs W0 (by omega) (box_cell hB1).1 (hG.next hb0))
    Keeps2.trans (keeps2_b (by omega) hG.pos hb0.size) (Below.refl _ _) (fun _ => rfl)
    (fun pre W => ((∀ y ∈ pre, 0 ≤ y.2) ∧ W.cell? ⟨w.heap.size, 0, none⟩ = some (.int .i64 0) ∧ W.frozen? ⟨w.heap.size, 0, none⟩ = false) ∧ Below w.heap.size w W)
    (fun c pre W => (c = .ret ∧ ∃ pre' x, pre = pre' ++ [x] ∧ (∀ y ∈ pre', 0 ≤ y.2) ∧ x.2 < 0 ∧ W.cell? ⟨w.heap.size, 0, none⟩ = some (.int .i64 (x.1 : Int))) ∧ Below w.heap.size w W)
    (OwnFrom.and (Own.from (fun s A B row hs hg hr => ⟨hs.1, cell_kept hs.2.1 hg hr, (frozen_kept hs.2.1 hg hr).trans hs.2.2⟩) _) (ownFrom_below (Nat.le_refl _) (by omega)))
    (fun c => OwnFrom.and (Own.from (fun s A B row hs hg hr => by obtain ⟨h1, p, x, h2, h3, h4, h5⟩ := hs; exact ⟨h1, p, x, h2, h3, h4, cell_kept h5 hg hr⟩) _) (ownFrom_below (Nat.le_refl _) (by omega)))
    ⟨⟨by simp, (box_cell hB0).1, (box_cell hB0).2⟩, hb0⟩
    (fun x => { tmps := #[.string s, undef, .pointer (some ⟨w.heap.size, 0, none⟩), .int .i64 (x.1 : Int), .int .i32 x.2, .string s, .func (.func 46) #[] #[.pointer (some ⟨w.heap.size + 1, 0, none⟩)], .int .i64 (x.1 : Int), .int .i32 x.2, undef, undef, undef], defers := [] }) ?assign ?body ?done ?stop
  case assign =>
    intro l x W K hK
    gi_wp2
    exact hK
  case body =>
    rintro l pre ⟨xi, xc⟩ W ⟨⟨hp, hcr, hfr⟩, hB⟩ _
    gi_wp2
    · have hx : xc < 0 := by assumption
      exact ⟨KeepsOthers.setCell _ _ _, ⟨rfl, pre, (xi, xc), rfl, hp, hx, World.cell?_setCell_same' _ _ _ (by rw [hcr]; rfl)⟩, hB.setCell (Nat.le_refl _) _⟩
    · have hx : 0 ≤ xc := by assumption
      exact ⟨KeepsOthers.refl _, Keeps2.refl _ _, ⟨fun y hy => (List.mem_append.1 hy).elim (hp y) (fun e => by simp at e; subst e; exact hx), hcr, hfr⟩, hB⟩
  case done =>
    rintro D xs W hD rfl ⟨⟨hne, hcr, hfr⟩, hB⟩ hK
    have hw : wrongI s = -1 := by
      unfold wrongI
      rw [List.find?_eq_none.2 (fun y hy => by have := hne y hy; simp; omega)]
    gi_wp2
    have hK' := (KeepsOthers.setCell W ⟨w.heap.size, 0, none⟩ (.int .i64 (-1))).same D _ hK rfl
    refine ⟨by simp, .inl ⟨_, _, rfl, run_takeDeferred hK', ?_⟩⟩
    have hc5 := cell_kept (World.cell?_setCell_same' W ⟨w.heap.size, 0, none⟩ (.int .i64 (-1)) (by rw [hcr]; rfl)) (grownBy_putObj' _ D (.deferred none)) (fun r e => by cases e; exact ⟨_, hK', rfl⟩)
    refine ⟨.int .i64 (-1), ?_, by rw [hw], ?_⟩
    · simp [results, Tryd.f31, go_sem, hc5]
    · exact (hB.setCell (Nat.le_refl _) _).trans (belowK_b (w := w) (Nat.le_refl _) _ D _ _ (by omega) hK' rfl rfl)
  case stop =>
    rintro D c pre W hD hpre ⟨⟨rfl, pre', x, rfl, hp, hx, hcr⟩, hB⟩ hK
    have hw : wrongI s = x.1 := by
      unfold wrongI
      obtain ⟨t, ht⟩ := hpre
      rw [← ht, List.append_assoc, List.find?_append, List.find?_eq_none.2 (fun y hy => by have := hp y hy; simp; omega)]
      simp [hx]
    gi_wp2
    refine ⟨by simp, .inl ⟨_, _, rfl, run_takeDeferred hK, ?_⟩⟩
    have hc5 := cell_kept hcr (grownBy_putObj' _ D (.deferred none)) (fun r e => by cases e; exact ⟨_, hK, rfl⟩)
    refine ⟨.int .i64 x.1, ?_, by rw [hw], ?_⟩
    · simp [results, Tryd.f31, go_sem, hc5]
    · exact hB.trans (belowK_b (w := w) (Nat.le_refl _) _ D _ _ (by omega) hK rfl rfl)
theorem f31_any (s : ByteArray) (hs : s.size ≤ maxLen) (w : World) (hG : Rng w) : Calls Tryd.prog 31 #[.string s] w fun e w' => e = .returned (.int .i64 (wrongI s)) ∧ Below w.heap.size w w' := callsIn_wide.1 (f31_in s hs w hG)
end Go.Proofs.YtllnfiidmpopkaaDoor
