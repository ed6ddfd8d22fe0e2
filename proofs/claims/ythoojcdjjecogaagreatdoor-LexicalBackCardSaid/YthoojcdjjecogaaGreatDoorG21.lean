/-
  Part 21 of the proof: what functions return, and plain facts (Call Cdecode Crdecode Csqr Csqr2 Xspec Xasc Xrnum Mstate Mrrd Mpadded Mchain Csq Cwords). Conditions: each theorem names its own.
-/
import Derived.RangeFuncNested
import Derived.RangeFuncBound
import Derived.RangeFuncCalls
import Derived.RangeFuncLeaves
import Derived.Shelf.Abstract
import Derived.Shelf.RegionOpen
import Derived.WalkKit
import Derived.OwnWalkIn
import Derived.TacticsInMore
import Derived.LoopNIn
import Derived.LoopIn
import Derived.Test.YthoojcdjjecogaaGreatDoorG19
import Derived.Maps.AppendAt
import Derived.LoopTactic
import Derived.Test.YthoojcdjjecogaaGreatDoorG12
import Derived.Test.YthoojcdjjecogaaGreatDoorG18
import Derived.Test.YthoojcdjjecogaaGreatDoorG06
import Derived.Test.YthoojcdjjecogaaGreatDoorG20
import Derived.Deep.CutBlock
import Derived.Deep.DeepCutAuto
import Derived.Test.YthoojcdjjecogaaGreatDoorG03
import Derived.Deep.MidRow
import Derived.Test.YthoojcdjjecogaaGreatDoorG04
import Derived.Shelf.Strings.SlTrimAscii
import Derived.Lib.ConvBytes
import Derived.Lib.SplitLaws
import Derived.Lib.Join
set_option maxRecDepth 1000000
set_option maxHeartbeats 16000000
namespace Go.Proofs.YthoojcdjjecogaaGreatDoor
open Go Go.RowKit Go.Shelf
attribute [local go_sem] Oper.semAt_some

def items (s : ByteArray) : List (Nat × Int) := Ch.items (s.size + 1) (bts s) 0

def Keeps2 (b : Nat) (W W' : World) : Prop := W'.heap[b]? = W.heap[b]? /\ W'.heap[1]? = W.heap[1]? /\ W.heap.size <= W'.heap.size
theorem Keeps2.refl (b : Nat) (W : World) : Keeps2 b W W := ⟨rfl, rfl, Nat.le_refl _⟩
theorem Keeps2.trans {b : Nat} {A B C : World} (h : Keeps2 b A B) (k : Keeps2 b B C) : Keeps2 b A C := ⟨k.1.trans h.1, k.2.1.trans h.2.1, Nat.le_trans h.2.2 k.2.2⟩
theorem Keeps2.of_below {b N : Nat} {A B : World} (h : Below N A B) (hb : b < N) (h0 : 1 < N) : Keeps2 b A B := ⟨h.block b hb, h.block 1 h0, h.size⟩
theorem Keeps2.rng {b : Nat} {A B : World} (h : Keeps2 b A B) (hr : Rng A) : Rng B := by
 obtain ⟨T, fr, hR⟩ := hr
 exact ⟨T, fr, h.2.1.trans hR⟩
theorem Keeps2.cell {b : Nat} {A B : World} (h : Keeps2 b A B) : B.cell? ⟨b, 0, none⟩ = A.cell? ⟨b, 0, none⟩ := World.cell?_of_block (a := ⟨b, 0, none⟩) h.1
theorem items_end (f p : Nat) (l : List Nat) (h : l.length <= p) : Ch.items f (l.drop p) p = [] := by
 cases f with
 | zero => rfl
 | succ f => unfold Ch.items; rw [if_pos (List.drop_of_length_le h)]
theorem items_none {f p : Nat} {l : List Nat} (hp : p < l.length) (hd : Ch.dec (l.drop p) = none) : Ch.items (f + 1) (l.drop p) p = [(p, -1)] := by
 rw [Ch.items, if_neg (by intro e; have := congrArg List.length e; simp at this; omega), hd]
theorem items_some {f p c n : Nat} {l : List Nat} (hp : p < l.length) (hd : Ch.dec (l.drop p) = some (c, n)) : Ch.items (f + 1) (l.drop p) p = (p, (c : Int)) :: Ch.items f (l.drop (p + n)) (p + n) := by
 rw [Ch.items, if_neg (by intro e; have := congrArg List.length e; simp at this; omega), hd]
 simp only [List.drop_drop]

theorem f46_in (n : Nat) (hn : 1 <= n) (l Bs : Nat) (s : ByteArray) (hs : s.size <= maxLen) (J Jx : List (Nat × Int) -> World -> Prop) (W : World) (hJ : AbidesFrom W.heap.size J) (hn1 : Bs < W.heap.size)
  (hY : ∀ pre x W1, J pre W1 -> pre.length < s.size + 1 -> YieldAt Fence.wide (n - 1) Tryz.prog l #[.int .i64 (x.1 : Int), .int .i32 x.2] W1 fun e W' =>
   (e = .returned (.bool true) /\ J (pre ++ [x]) W' /\ Keeps2 Bs W1 W') \/ (e = .returned (.bool false) /\ Jx (pre ++ [x]) W'))
  (hBs : W.cell? ⟨Bs, 0, none⟩ = some (.string s)) (hG : Rng W) (h0 : J [] W) :
  CallsIn Fence.wide n Tryz.prog 91 #[.func (.yield l) #[] #[], .pointer (some ⟨Bs, 0, none⟩)] W fun e W' => (∃ v, e = .returned v) /\
   ((∃ ys, ys = items s /\ J ys W') \/ (∃ pre, pre <+: items s /\ Jx pre W')) := by
 have hs' := hs
 unfold maxLen at hs
 refine callsIn_of_wp Tryz.func91 rfl trivial ?_ rfl
 simp only [Tryz.ntmps91, List.size_toArray, List.length_cons, List.length_nil, Nat.reduceAdd, Nat.reduceSub, Array.replicate_succ, Array.replicate_zero, List.push_toArray, List.append_toArray, List.nil_append, List.cons_append]
 gi_wp2
 gi_loopw [3] (fun i wr => ∃ (p f : Nat) (pre : List (Nat × Int)), p <= s.size /\ s.size < p + f /\ pre.length <= p /\ i = .int .i64 p /\ Hid (items s = pre ++ Ch.items f ((bts s).drop p) p) /\ J pre wr /\ Keeps2 Bs W wr)
  (fun i _ => s.size - (intOf i).toNat)
 case atStart => exact ⟨0, s.size + 1, [], Nat.zero_le _, by omega, by simp, rfl, Lib.hid rfl, h0, Keeps2.refl _ _⟩
 case round =>
  obtain ⟨p, f, pre, hp, hf, hpre, rfl, hit, hJs, hnx⟩ := hrel
  have hcx : wr.cell? ⟨Bs, 0, none⟩ = some (.string s) := hnx.cell.trans hBs
  have hGr : Rng wr := hnx.rng hG
  have hsz := hnx.2.2
  by_cases hlt : p < s.size
  ·have hsz' : (s.extract p s.size).size = s.size - p := by simp
   have hle : (s.extract p s.size).size <= maxLen := by omega
   have hpos : 0 < (s.extract p s.size).size := by omega
   obtain ⟨f, rfl⟩ : ∃ f', f = f' + 1 := ⟨f - 1, by omega⟩
   have hpl : p < (bts s).length := by rw [bts_length]; exact hlt
   clear hsz'
   cases hd : Ch.dec ((bts s).drop p) with
   | none =>
    have hd' : Ch.dec (bts (s.extract p s.size)) = none := by rw [bts_from]; exact hd
    have HD' : Hid _ := Lib.hid hd'
    have hit' : Hid (items s = pre ++ [(p, -1)]) := Lib.hid (by rw [hit.out, items_none hpl hd])
    clear hd hd' hit
    gi_wp2_with (refine ⟨trivial, ?_⟩; gi_at_call 92; refine (callsIn_wide.2 (f47_none _ _ hGr hle hpos HD'.out)).mono ?_; rintro e w1 ⟨rfl, hb1⟩; have hJ1 := hJ _ _ _ none hJs (grown_of_below hb1) (fun _ e => by cases e); obtain ⟨fn, tmps, assign, body, hy, hR⟩ := hY pre (p, -1) w1 hJ1 (by omega); dsimp only at hy)
    refine hR.mono ?_
    rintro e W3 (⟨rfl, hJ3, hk3⟩ | ⟨rfl, hJx3⟩)
    ·gi_wp2
     refine bodyPost_ret (results_none rfl _ _ _) rfl ?_
     exact ⟨⟨_, rfl⟩, .inl ⟨_, hit'.out.symm, hJ3⟩⟩
    ·gi_wp2
     refine bodyPost_ret (results_none rfl _ _ _) rfl ?_
     exact ⟨⟨_, rfl⟩, .inr ⟨_, by rw [hit'.out]; exact List.prefix_refl _, hJx3⟩⟩
   | some q =>
    obtain ⟨c, m⟩ := q
    have hd' : Ch.dec (bts (s.extract p s.size)) = some (c, m) := by rw [bts_from]; exact hd
    obtain ⟨hm1, hm4, hml⟩ := Ch.dec_le hd
    have hm0 : ((m : Int) == 0) = false := beq_eq_false_iff_ne.2 (by omega)
    have hpm : p + m <= s.size := by simp only [List.length_drop, bts_length] at hml; omega
    have HD' : Hid _ := Lib.hid hd'
    have hit' : Hid (items s = (pre ++ [(p, (c : Int))]) ++ Ch.items f ((bts s).drop (p + m)) (p + m)) := Lib.hid (by rw [hit.out, items_some hpl hd]; simp)
    clear hd hd' hit hml
    gi_wp2_with (refine ⟨trivial, ?_⟩; gi_at_call 92; refine (callsIn_wide.2 (f47_some _ _ hGr hle c m HD'.out)).mono ?_; rintro e w1 ⟨rfl, hb1⟩; have hJ1 := hJ _ _ _ none hJs (grown_of_below hb1) (fun _ e => by cases e); obtain ⟨fn, tmps, assign, body, hy, hR⟩ := hY pre (p, (c : Int)) w1 hJ1 (by omega); dsimp only at hy)
    refine hR.mono ?_
    rintro e W3 (⟨rfl, hJ3, hk3⟩ | ⟨rfl, hJx3⟩)
    ·gi_wp2
     go_roundw
     case rel => exact ⟨p + m, f, pre ++ [(p, (c : Int))], by omega, by omega, by simp; omega, by simp, hit', hJ3, (hnx.trans (Keeps2.of_below hb1 (by omega) hGr.pos)).trans hk3⟩
     case measure => simp [intOf]; omega
    ·gi_wp2
     refine bodyPost_ret (results_none rfl _ _ _) rfl ?_
     exact ⟨⟨_, rfl⟩, .inr ⟨_, by rw [hit'.out]; exact List.prefix_append _ _, hJx3⟩⟩
  ·have hpe : p = s.size := by omega
   have hit' : items s = pre := by rw [hit.out, items_end f p _ (by rw [bts_length]; omega), List.append_nil]
   have HI : Hid _ := Lib.hid hit'
   clear hit' hit hpe
   gi_wp2
   go_end0
   exact ⟨⟨_, rfl⟩, .inl ⟨_, HI.out.symm, hJs⟩⟩

theorem all_stops (n : Nat) (hn : 1 <= n) (Bs : Nat) (s : ByteArray) (hs : s.size <= maxLen) (w : World) (hB : Bs < w.heap.size) (hBs : w.cell? ⟨Bs, 0, none⟩ = some (.string s)) (hG : Rng w) :
  SeqStopsK Fence.wide n Tryz.prog 91 #[.pointer (some ⟨Bs, 0, none⟩)] (fun x : Nat × Int => #[Value.int .i64 (x.1 : Int), Value.int .i32 x.2]) (Keeps2 Bs) (fun ys => ys = items s) (fun pre => pre <+: items s) (s.size + 1) w :=
 fun l J Jx W hW hJ _ hY h0 =>
  f46_in n hn l Bs s hs J Jx W hJ (Nat.lt_of_lt_of_le hB hW.size) hY ((hW.cell (p := ⟨Bs, 0, none⟩) hB).trans hBs) (hG.next hW) h0

theorem f30_any (s : ByteArray) (w : World) : Calls Tryz.prog 47 #[.string s] w fun e w' => e = .returned (.func (.func 91) #[] #[.pointer (some ⟨w.heap.size, 0, none⟩)]) /\ w.alloc (.cells #[.string s] 9) = w' := by
 go_enter Tryz.func47, Tryz.ntmps47
 go_wp2
 go_ret
 exact ⟨rfl, rfl⟩

theorem box_cell {W : World} {b : Nat} {v : Value} {t : TypeId} (hB : W.heap[b]? = some (.cells #[v] t (0, 0))) : W.cell? ⟨b, 0, none⟩ = some v /\ W.frozen? ⟨b, 0, none⟩ = false :=
 ⟨by simp [World.cell?, hB], by simp [World.frozen?, hB]⟩
theorem keeps2_b {b N : Nat} {w0 : World} (hb : b < N) (h0 : 1 < w0.heap.size) (hN : w0.heap.size <= N) (W : World) (l : Nat) (o o' : Obj) (hl : N <= l) (h : W.heap[l]? = some o) (_ : o.isCells = false) (_ : o.isWalk = false) : Keeps2 b W (W.putObj l o') := by
 have hg := grownBy_putObj' W l o'
 have hlt := (Array.getElem?_eq_some_iff.1 h).1
 exact ⟨hg.block b (by omega) (fun e => by cases e; omega), hg.block 1 (by omega) (fun e => by cases e; omega), hg.size⟩

def wrongI (s : ByteArray) : Int := match (items s).find? (fun x => decide (x.2 < 0)) with | some x => (x.1 : Int) | none => -1

theorem f31_in (s : ByteArray) (hs : s.size <= maxLen) (w : World) (hG : Rng w) : CallsIn Fence.wide 9 Tryz.prog 48 #[.string s] w fun e w' => e = .returned (.int .i64 (wrongI s)) /\ Below w.heap.size w w' := by
 refine callsIn_of_wp_marks Tryz.func48 rfl trivial ?_ rfl
 simp only [Tryz.ntmps48, List.size_toArray, List.length_cons, List.length_nil, Nat.reduceAdd, Nat.reduceSub, Array.replicate_succ, Array.replicate_zero, List.push_toArray, List.append_toArray, List.nil_append, List.cons_append]
 gi_wp2_with (refine ⟨trivial, ?_⟩; gi_at_call 47; refine (callsIn_wide.2 (f30_any _ _)).mono ?_; rintro e w1 ⟨rfl, rfl⟩)
 obtain ⟨W0, hW0⟩ : ∃ W0, (w.alloc (.cells #[.int .i64 0] 3)).alloc (.cells #[.string s] 9) = W0 := ⟨_, rfl⟩
 have hs0 : W0.heap.size = w.heap.size + 2 := by rw [<- hW0]; simp
 have hB0 : W0.heap[w.heap.size]? = some (.cells #[.int .i64 0] 3 (0, 0)) := by
  rw [<- hW0]; exact (Below.heap_alloc _ _ _ (by simp)).trans (World.alloc_heap_new w _)
 have hB1 : W0.heap[w.heap.size + 1]? = some (.cells #[.string s] 9 (0, 0)) := by
  rw [<- hW0]; have := World.alloc_heap_new (w.alloc (.cells #[.int .i64 0] 3)) (.cells #[.string s] 9); rwa [World.size_alloc] at this
 have hb0 : Below w.heap.size w W0 := by rw [<- hW0]; exact ((Below.refl _ w).alloc (Nat.le_refl _) _).alloc (by simp) _
 rw [hW0]
 clear hW0
 refine wpIn_rangeFunc_ownF rfl (by decide) (gf := 91) (lb := #[.pointer (some ⟨w.heap.size + 1, 0, none⟩)]) rfl trivial (enters_of Tryz.func91 (by kernel_rfl) rfl)
  (all_stops 8 (by decide) (w.heap.size + 1) s hs W0 (by omega) (box_cell hB1).1 (hG.next hb0))
  Keeps2.trans (keeps2_b (by omega) hG.pos hb0.size) (Below.refl _ _) (fun _ => rfl)
  (fun pre W => ((∀ y ∈ pre, 0 <= y.2) /\ W.cell? ⟨w.heap.size, 0, none⟩ = some (.int .i64 0) /\ W.frozen? ⟨w.heap.size, 0, none⟩ = false) /\ Below w.heap.size w W)
  (fun c pre W => (c = .ret /\ ∃ pre' x, pre = pre' ++ [x] /\ (∀ y ∈ pre', 0 <= y.2) /\ x.2 < 0 /\ W.cell? ⟨w.heap.size, 0, none⟩ = some (.int .i64 (x.1 : Int))) /\ Below w.heap.size w W)
  (OwnFrom.and (Own.from (fun s A B row hs hg hr => ⟨hs.1, cell_kept hs.2.1 hg hr, (frozen_kept hs.2.1 hg hr).trans hs.2.2⟩) _) (ownFrom_below (Nat.le_refl _) (by omega)))
  (fun c => OwnFrom.and (Own.from (fun s A B row hs hg hr => by obtain ⟨h1, p, x, h2, h3, h4, h5⟩ := hs; exact ⟨h1, p, x, h2, h3, h4, cell_kept h5 hg hr⟩) _) (ownFrom_below (Nat.le_refl _) (by omega)))
  ⟨⟨by simp, (box_cell hB0).1, (box_cell hB0).2⟩, hb0⟩
  (fun x => { tmps := #[.string s, undef, .pointer (some ⟨w.heap.size, 0, none⟩), .int .i64 (x.1 : Int), .int .i32 x.2, .string s, .func (.func 91) #[] #[.pointer (some ⟨w.heap.size + 1, 0, none⟩)], .int .i64 (x.1 : Int), .int .i32 x.2, undef, undef, undef], defers := [] }) ?assign ?body ?done ?stop
 case assign =>
  intro l x W K hK
  gi_wp2
  exact hK
 case body =>
  rintro l pre ⟨xi, xc⟩ W ⟨⟨hp, hcr, hfr⟩, hB⟩ _
  gi_wp2
  ·have hx : xc < 0 := by assumption
   exact ⟨KeepsOthers.setCell _ _ _, ⟨rfl, pre, (xi, xc), rfl, hp, hx, World.cell?_setCell_same' _ _ _ (by rw [hcr]; rfl)⟩, hB.setCell (Nat.le_refl _) _⟩
  ·have hx : 0 <= xc := by assumption
   exact ⟨KeepsOthers.refl _, Keeps2.refl _ _, ⟨fun y hy => (List.mem_append.1 hy).elim (hp y) (fun e => by simp at e; subst e; exact hx), hcr, hfr⟩, hB⟩
 case done =>
  rintro D xs W hD rfl ⟨⟨hne, hcr, hfr⟩, hB⟩ hK
  have hw : wrongI s = -1 := by
   unfold wrongI
   rw [List.find?_eq_none.2 (fun y hy => by have := hne y hy; simp; omega)]
  gi_wp2
  have hK' := (KeepsOthers.setCell W ⟨w.heap.size, 0, none⟩ (.int .i64 (-1))).same D _ hK rfl
  refine ⟨by simp, .inl ⟨_, _, rfl, run_takeDeferred hK', ?_⟩⟩
  have hc5 := cell_kept (World.cell?_setCell_same' W ⟨w.heap.size, 0, none⟩ (.int .i64 (-1)) (by rw [hcr]; rfl)) (grownBy_putObj' _ D (.deferred none)) (fun r e => by cases e; exact ⟨_, hK', rfl⟩)
  refine ⟨.int .i64 (-1), ?_, by rw [hw], ?_⟩
  ·simp [results, Tryz.f48, go_sem, hc5]
  ·exact (hB.setCell (Nat.le_refl _) _).trans (belowK_b (w := w) (Nat.le_refl _) _ D _ _ (by omega) hK' rfl rfl)
 case stop =>
  rintro D c pre W hD hpre ⟨⟨rfl, pre', x, rfl, hp, hx, hcr⟩, hB⟩ hK
  have hw : wrongI s = x.1 := by
   unfold wrongI
   obtain ⟨t, ht⟩ := hpre
   rw [<- ht, List.append_assoc, List.find?_append, List.find?_eq_none.2 (fun y hy => by have := hp y hy; simp; omega)]
   simp [hx]
  gi_wp2
  refine ⟨by simp, .inl ⟨_, _, rfl, run_takeDeferred hK, ?_⟩⟩
  have hc5 := cell_kept hcr (grownBy_putObj' _ D (.deferred none)) (fun r e => by cases e; exact ⟨_, hK, rfl⟩)
  refine ⟨.int .i64 x.1, ?_, by rw [hw], ?_⟩
  ·simp [results, Tryz.f48, go_sem, hc5]
  ·exact hB.trans (belowK_b (w := w) (Nat.le_refl _) _ D _ _ (by omega) hK rfl rfl)
theorem f31_any (s : ByteArray) (hs : s.size <= maxLen) (w : World) (hG : Rng w) : Calls Tryz.prog 48 #[.string s] w fun e w' => e = .returned (.int .i64 (wrongI s)) /\ Below w.heap.size w w' := callsIn_wide.1 (f31_in s hs w hG)
attribute [local go_sem] Oper.semAt_some

theorem Tryz.info21 : (Tryz.prog.info? 21).map (fun i => (i.zero, i.size, i.bytes)) = some (some (.int .i32 0), 1, 4) := by kernel_rfl
def i32s (l : List Int) : List Value := l.map fun n : Int => Value.int .i32 n
def seconds (l : List (Nat × Int)) : List Int := l.map (·.2)
theorem heap_appended {W w1 : World} {B k : Nat} {v v' : Value} {tmp : Obj} (hk : k < W.heap.size) (hr : some k ≠ v.ownBlock) (hB : k ≠ B) (hgrow : (W.alloc tmp).grownBy w1 v.ownBlock) : (w1.setCell ⟨B, 0, none⟩ v').heap[k]? = W.heap[k]? :=
 (Below.heap_setCell w1 ⟨B, 0, none⟩ v' k hB).trans ((hgrow.block k (by simp; omega) hr).trans (Below.heap_alloc W tmp k hk))
theorem boxed_keep {X Y : World} {row : Option Nat} {B : Nat} {t : TypeId} {v : Value} (hs : Boxed X B t v) (hg : X.grownBy Y row) (hrow : ∀ r, row = some r -> ∃ o : Obj, X.heap[r]? = some o /\ o.isCells = false) : Boxed Y B t v :=
 boxed_own (β := Unit) B t (fun _ => v) () X Y row hs hg hrow
theorem f24_in (s : ByteArray) (hs : s.size <= 1000000) (w : World) (hG : Rng w) : CallsIn Fence.wide 9 Tryz.prog 24 #[.string s] w fun e w' =>
  ((∃ v, wrongI s = -1 /\ e = .returned (.tuple #[v, .int .i64 0, .int .i64 0]) /\ w'.ownsRow w.heap.size 21 1 v (items s).length (i32s (seconds (items s)))) \/ (0 <= wrongI s /\ e = .returned (.tuple #[.slice none 0 0, .int .i64 (wrongI s), .int .i64 6]))) /\ Below w.heap.size w w' := by
 refine callsIn_of_wp_marks Tryz.func24 rfl trivial ?_ rfl
 simp only [Tryz.ntmps24, List.size_toArray, List.length_cons, List.length_nil, Nat.reduceAdd, Nat.reduceSub, Array.replicate_succ, Array.replicate_zero, List.push_toArray, List.append_toArray, List.nil_append, List.cons_append]
 gi_wp2_with (refine ⟨trivial, ?_⟩; gi_at_call 47; refine (callsIn_wide.2 (f30_any _ _)).mono ?_; rintro e w1 ⟨rfl, rfl⟩)
 obtain ⟨W0, hW0⟩ : ∃ W0, ((((w.alloc (.cells #[.slice none 0 0] 49)).alloc (.cells #[.int .i64 0] 3)).alloc (.cells #[.int .i64 0] 30)).alloc (.cells #[.slice none 0 0] 49)).alloc (.cells #[.string s] 9) = W0 := ⟨_, rfl⟩
 have hs0 : W0.heap.size = w.heap.size + 5 := by rw [<- hW0]; simp
 have hB0 : Boxed W0 w.heap.size 49 (.slice none 0 0) := by rw [<- hW0]; exact ((((Boxed.new w 49 _).alloc _).alloc _).alloc _).alloc _
 have hB1 : Boxed W0 (w.heap.size + 1) 3 (.int .i64 0) := by
  rw [<- hW0]; have := Boxed.new (w.alloc (.cells #[.slice none 0 0] 49)) 3 (.int .i64 0); rw [World.size_alloc] at this; exact ((this.alloc _).alloc _).alloc _
 have hB2 : Boxed W0 (w.heap.size + 1 + 1) 30 (.int .i64 0) := by
  rw [<- hW0]; have := Boxed.new ((w.alloc (.cells #[.slice none 0 0] 49)).alloc (.cells #[.int .i64 0] 3)) 30 (.int .i64 0); rw [World.size_alloc, World.size_alloc] at this; exact (this.alloc _).alloc _
 have hB3 : Boxed W0 (w.heap.size + 1 + 1 + 1) 49 (.slice none 0 0) := by
  rw [<- hW0]; have := Boxed.new (((w.alloc (.cells #[.slice none 0 0] 49)).alloc (.cells #[.int .i64 0] 3)).alloc (.cells #[.int .i64 0] 30)) 49 (.slice none 0 0); rw [World.size_alloc, World.size_alloc, World.size_alloc] at this; exact this.alloc _
 have hB4 : Boxed W0 (w.heap.size + 1 + 1 + 1 + 1) 9 (.string s) := by
  rw [<- hW0]; have := Boxed.new ((((w.alloc (.cells #[.slice none 0 0] 49)).alloc (.cells #[.int .i64 0] 3)).alloc (.cells #[.int .i64 0] 30)).alloc (.cells #[.slice none 0 0] 49)) 9 (.string s); rw [World.size_alloc, World.size_alloc, World.size_alloc, World.size_alloc] at this; exact this
 have hb0 : Below w.heap.size w W0 := by rw [<- hW0]; exact (((((Below.refl _ w).alloc (Nat.le_refl _) _).alloc (by simp) _).alloc (by simp; omega) _).alloc (by simp; omega) _).alloc (by simp; omega) _
 rw [hW0]
 clear hW0
 obtain ⟨i0, hi, hz0, hz1, hz2⟩ := info_parts Tryz.info21
 refine wpIn_rangeFunc_ownF rfl (by decide) (gf := 91) (lb := #[.pointer (some ⟨w.heap.size + 1 + 1 + 1 + 1, 0, none⟩)]) rfl trivial (enters_of Tryz.func91 (by kernel_rfl) rfl)
  (all_stops 8 (by decide) (w.heap.size + 1 + 1 + 1 + 1) s (by unfold maxLen; omega) W0 (by omega) hB4.cell (hG.next hb0))
  Keeps2.trans (keeps2_b (by omega) hG.pos hb0.size) (Below.refl _ _) (fun _ => rfl)
  (fun pre W => Boxed W (w.heap.size + 1 + 1 + 1 + 1) 9 (.string s) /\ Boxed W w.heap.size 49 (.slice none 0 0) /\ Boxed W (w.heap.size + 1) 3 (.int .i64 0) /\ Boxed W (w.heap.size + 1 + 1) 30 (.int .i64 0) /\
   (∃ v, Boxed W (w.heap.size + 1 + 1 + 1) 49 v /\ W.ownsRow w.heap.size 21 1 v pre.length (i32s (seconds pre)) /\ True) /\ (∀ y ∈ pre, 0 <= y.2) /\ Below w.heap.size w W)
  (fun c pre W => (c = .ret /\ ∃ pre' x, pre = pre' ++ [x] /\ (∀ y ∈ pre', 0 <= y.2) /\ x.2 < 0 /\ Boxed W w.heap.size 49 (.slice none 0 0) /\ Boxed W (w.heap.size + 1) 3 (.int .i64 (x.1 : Int)) /\ Boxed W (w.heap.size + 1 + 1) 30 (.int .i64 6)) /\ Below w.heap.size w W)
  ((Own.from (boxed_own _ _ _) _).and ((Own.from (boxed_own _ _ _) _).and ((Own.from (boxed_own _ _ _) _).and ((Own.from (boxed_own _ _ _) _).and ((Own.from (holdsRow_own _ _ _ _ _ _ _ (fun _ _ => True)) _).and ((ownFrom_pure _ _).and (ownFrom_below (Nat.le_refl _) (by omega))))))))
  (fun c => OwnFrom.and (Own.from (fun s A B row hs hg hr => by
   obtain ⟨h1, p, x, h2, h3, h4, h5, h6, h7⟩ := hs
   exact ⟨h1, p, x, h2, h3, h4, boxed_keep h5 hg hr, boxed_keep h6 hg hr, boxed_keep h7 hg hr⟩) _) (ownFrom_below (Nat.le_refl _) (by omega)))
  ⟨hB4, hB0, hB1, hB2, ⟨_, hB3, ⟨rfl, .inl ⟨rfl, rfl⟩⟩, trivial⟩, by simp, hb0⟩
  (fun x => { tmps := #[.string s, undef, .pointer (some ⟨w.heap.size, 0, none⟩), .pointer (some ⟨w.heap.size + 1, 0, none⟩), .pointer (some ⟨w.heap.size + 1 + 1, 0, none⟩), .pointer (some ⟨w.heap.size + 1 + 1 + 1, 0, none⟩), .int .i64 (x.1 : Int), .int .i32 x.2, .string s, .func (.func 91) #[] #[.pointer (some ⟨w.heap.size + 1 + 1 + 1 + 1, 0, none⟩)], .int .i64 (x.1 : Int), .int .i32 x.2, undef, undef, undef, undef, undef, undef, undef, undef], defers := [] }) ?assign ?body ?done ?stop
 case assign =>
  intro l x W K hK
  gi_wp2
  exact hK
 case body =>
  rintro l pre ⟨xi, xc⟩ W ⟨h4, h0, h1, h2, ⟨v, h3, hrow, _⟩, hp, hB⟩ hlen
  have hc0 := h0.cell
  have hc1 := h1.cell
  have hc2 := h2.cell
  have hc3 := h3.cell
  have hf0 := h0.frozen
  have hf1 := h1.frozen
  have hf2 := h2.frozen
  have hlt := h3.lt
  by_cases hx : xc < 0
  ·gi_wp2
   refine ⟨((KeepsOthers.setCell _ _ _).trans (KeepsOthers.setCell _ _ _)).trans (KeepsOthers.setCell _ _ _), ⟨rfl, pre, (xi, xc), rfl, hp, hx, ?_, ?_, ?_⟩, ((hB.setCell (Nat.le_refl _) _).setCell (p := ⟨w.heap.size + 1, 0, none⟩) (by simp) _).setCell (p := ⟨w.heap.size + 1 + 1, 0, none⟩) (by simp; omega) _⟩
   ·exact ((h0.set _).other (by omega) _).other (by omega) _
   ·exact ((h1.other (by omega) _).set _).other (by omega) _
   ·exact ((h2.other (by omega) _).other (by omega) _).set _
  ·have hx' : 0 <= xc := by omega
   clear hx
   gi_wp2_with (gi_at_builtin; refine wpListIn_append_own _ rfl _ _ 49 rfl w.heap.size 21 i0 (.int .i32 0) 1 4 Tryz.underlying49 hi hz0 hz1 hz2 rfl (by decide) v pre.length (i32s (seconds pre)) rfl (hrow.alloc _) ⟨W.heap.size, 0, none⟩ 1 1 [.int .i32 xc] rfl rfl (cell_one_new _ _ _) (by simp [Value.oneCell']) (by unfold maxLen; omega) (by omega) (by have := hB.size; simp; omega) ?_; intro v' w1 hown' hgrow _; obtain ⟨g', cap', rfl⟩ := ownsRow_succ hown'; obtain ⟨hv1, hv2, hr2, hk2, hb2⟩ := h3.appended (by decide) hrow hB.size (by omega) hown' hgrow; have hcv := hv1.cell; have hfv := hv1.frozen)
   refine ⟨hk2, ⟨heap_appended h4.lt (h4.not_row (by decide) hrow) (by omega) hgrow, heap_appended (by omega) (row_ge hrow 1 hG.pos) (by omega) hgrow, ?_⟩, ?_⟩
   ·exact hk2.1
   ·refine ⟨(heap_appended h4.lt (h4.not_row (by decide) hrow) (by omega) hgrow).trans h4, (heap_appended h0.lt (h0.not_row (by decide) hrow) (by omega) hgrow).trans h0, (heap_appended h1.lt (h1.not_row (by decide) hrow) (by omega) hgrow).trans h1, (heap_appended h2.lt (h2.not_row (by decide) hrow) (by omega) hgrow).trans h2, ⟨_, hv2, ?_, trivial⟩, ?_, hB.trans hb2⟩
    ·simpa [i32s, seconds] using hr2
    ·intro y hy
     rcases List.mem_append.1 hy with h | h
     ·exact hp y h
     ·simp at h; subst h; exact hx'
 case done =>
  rintro D xs W hD rfl ⟨h4, h0, h1, h2, ⟨v, h3, hrow, _⟩, hp, hB⟩ hK
  have hw : wrongI s = -1 := by
   unfold wrongI
   rw [List.find?_eq_none.2 (fun y hy => by have := hp y hy; simp; omega)]
  obtain ⟨va, vcap, rfl⟩ := row_slice hrow
  have hc0 := h0.cell
  have hc1 := h1.cell
  have hc2 := h2.cell
  have hc3 := h3.cell
  have hf0 := h0.frozen
  have hf1 := h1.frozen
  have hf2 := h2.frozen
  gi_wp2
  obtain ⟨W1, hW1⟩ : ∃ W1, W.setCell ⟨w.heap.size, 0, none⟩ (.slice va (items s).length vcap) = W1 := ⟨_, rfl⟩
  obtain ⟨W2, hW2⟩ : ∃ W2, W1.setCell ⟨w.heap.size + 1, 0, none⟩ (.int .i64 0) = W2 := ⟨_, rfl⟩
  obtain ⟨W3, hW3⟩ : ∃ W3, W2.setCell ⟨w.heap.size + 1 + 1, 0, none⟩ (.int .i64 0) = W3 := ⟨_, rfl⟩
  rw [hW1, hW2, hW3]
  have r1 : W1.ownsRow w.heap.size 21 1 (.slice va (items s).length vcap) (items s).length (i32s (seconds (items s))) := by rw [<- hW1]; exact hrow.kept (grownBy_setCell' _ _ _) (.inr (h0.not_row (by decide) hrow).symm)
  have a0 : Boxed W1 w.heap.size 49 (.slice va (items s).length vcap) := by rw [<- hW1]; exact h0.set _
  have a1 : Boxed W1 (w.heap.size + 1) 3 (.int .i64 0) := by rw [<- hW1]; exact h1.other (by omega) _
  have a2 : Boxed W1 (w.heap.size + 1 + 1) 30 (.int .i64 0) := by rw [<- hW1]; exact h2.other (by omega) _
  have r2 : W2.ownsRow w.heap.size 21 1 (.slice va (items s).length vcap) (items s).length (i32s (seconds (items s))) := by rw [<- hW2]; exact r1.kept (grownBy_setCell' _ _ _) (.inr (a1.not_row (by decide) r1).symm)
  have b0 : Boxed W2 w.heap.size 49 (.slice va (items s).length vcap) := by rw [<- hW2]; exact a0.other (by omega) _
  have b1 : Boxed W2 (w.heap.size + 1) 3 (.int .i64 0) := by rw [<- hW2]; exact a1.set _
  have b2 : Boxed W2 (w.heap.size + 1 + 1) 30 (.int .i64 0) := by rw [<- hW2]; exact a2.other (by omega) _
  have r3 : W3.ownsRow w.heap.size 21 1 (.slice va (items s).length vcap) (items s).length (i32s (seconds (items s))) := by rw [<- hW3]; exact r2.kept (grownBy_setCell' _ _ _) (.inr (b2.not_row (by decide) r2).symm)
  have c0 : Boxed W3 w.heap.size 49 (.slice va (items s).length vcap) := by rw [<- hW3]; exact b0.other (by omega) _
  have c1 : Boxed W3 (w.heap.size + 1) 3 (.int .i64 0) := by rw [<- hW3]; exact b1.other (by omega) _
  have c2 : Boxed W3 (w.heap.size + 1 + 1) 30 (.int .i64 0) := by rw [<- hW3]; exact b2.set _
  have hK' : W3.heap[D]? = some (.deferred (some [])) := by
   rw [<- hW3, <- hW2, <- hW1]
   exact (((KeepsOthers.setCell _ _ _).trans (KeepsOthers.setCell _ _ _)).trans (KeepsOthers.setCell _ _ _)).same D _ hK rfl
  have hB3 : Below w.heap.size w W3 := by
   rw [<- hW3, <- hW2, <- hW1]
   exact ((hB.setCell (Nat.le_refl _) _).setCell (p := ⟨w.heap.size + 1, 0, none⟩) (by simp) _).setCell (p := ⟨w.heap.size + 1 + 1, 0, none⟩) (by simp; omega) _
  clear hW1 hW2 hW3 hc0 hc1 hc2 hc3 hf0 hf1 hf2
  refine ⟨by simp, .inl ⟨_, _, rfl, run_takeDeferred hK', ?_⟩⟩
  have q0 := (boxed_keep c0 (grownBy_putObj' _ D (.deferred none)) (fun r e => by cases e; exact ⟨_, hK', rfl⟩)).cell
  have q1 := (boxed_keep c1 (grownBy_putObj' _ D (.deferred none)) (fun r e => by cases e; exact ⟨_, hK', rfl⟩)).cell
  have q2 := (boxed_keep c2 (grownBy_putObj' _ D (.deferred none)) (fun r e => by cases e; exact ⟨_, hK', rfl⟩)).cell
  refine ⟨.tuple #[.slice va (items s).length vcap, .int .i64 0, .int .i64 0], ?_, .inl ⟨_, hw, rfl, ownsRow_putObj r3 _ hK' rfl⟩, ?_⟩
  ·simp [results, Tryz.f24, go_sem, q0, q1, q2]
  ·exact hB3.trans (belowK_b (w := w) (Nat.le_refl _) _ D _ _ (by omega) hK' rfl rfl)
 case stop =>
  rintro D c pre W hD hpre ⟨⟨rfl, pre', x, rfl, hp, hx, h0, h1, h2⟩, hB⟩ hK
  have hw : wrongI s = x.1 := by
   unfold wrongI
   obtain ⟨t, ht⟩ := hpre
   rw [<- ht, List.append_assoc, List.find?_append, List.find?_eq_none.2 (fun y hy => by have := hp y hy; simp; omega)]
   simp [hx]
  gi_wp2
  refine ⟨by simp, .inl ⟨_, _, rfl, run_takeDeferred hK, ?_⟩⟩
  have q0 := (boxed_keep h0 (grownBy_putObj' _ D (.deferred none)) (fun r e => by cases e; exact ⟨_, hK, rfl⟩)).cell
  have q1 := (boxed_keep h1 (grownBy_putObj' _ D (.deferred none)) (fun r e => by cases e; exact ⟨_, hK, rfl⟩)).cell
  have q2 := (boxed_keep h2 (grownBy_putObj' _ D (.deferred none)) (fun r e => by cases e; exact ⟨_, hK, rfl⟩)).cell
  refine ⟨.tuple #[.slice none 0 0, .int .i64 x.1, .int .i64 6], ?_, .inr ⟨by omega, by rw [hw]⟩, ?_⟩
  ·simp [results, Tryz.f24, go_sem, q0, q1, q2]
  ·exact hB.trans (belowK_b (w := w) (Nat.le_refl _) _ D _ _ (by omega) hK rfl rfl)
theorem f24_any (s : ByteArray) (hs : s.size <= 1000000) (w : World) (hG : Rng w) : Calls Tryz.prog 24 #[.string s] w fun e w' =>
  ((∃ v, wrongI s = -1 /\ e = .returned (.tuple #[v, .int .i64 0, .int .i64 0]) /\ w'.ownsRow w.heap.size 21 1 v (items s).length (i32s (seconds (items s)))) \/ (0 <= wrongI s /\ e = .returned (.tuple #[.slice none 0 0, .int .i64 (wrongI s), .int .i64 6]))) /\ Below w.heap.size w w' := callsIn_wide.1 (f24_in s hs w hG)
end Go.Proofs.YthoojcdjjecogaaGreatDoor
namespace Go.Proofs.YthoojcdjjecogaaGreatDoor
open Go Go.RowKit
theorem wrongI_of_all {s : ByteArray} (h : ∀ y ∈ items s, 0 <= y.2) : wrongI s = -1 := by
 unfold wrongI
 rw [List.find?_eq_none.2 (fun y hy => by have := h y hy; simp; omega)]

def sqB (c : Nat) : Nat := if Ch.blank c then 32 else c
def sqStep (out : List Nat) (c : Nat) : List Nat := if sqB c = 32 /\ (out = [] \/ out.getLast? = some 32) then out else out ++ [sqB c]
def sqRow (l : List Nat) : List Nat := l.foldl sqStep []
def sqTwo (l : List Nat) : List Nat := if (sqRow l).getLast? = some 32 then (sqRow l).dropLast else sqRow l

theorem sqB_lt {c : Nat} (h : c < 256) : sqB c < 256 := by unfold sqB; split <;> omega
theorem sqStep_length (out : List Nat) (c : Nat) : (sqStep out c).length <= out.length + 1 := by
 unfold sqStep; split
 ·omega
 ·simp
theorem sqRow_length (l : List Nat) : (sqRow l).length <= l.length := by
 have : ∀ (l out : List Nat), (l.foldl sqStep out).length <= out.length + l.length := by
  intro l
  induction l with
  | nil => intro out; simp
  | cons c l ih =>
   intro out
   have h1 := ih (sqStep out c)
   have h2 := sqStep_length out c
   simp only [List.foldl_cons, List.length_cons]; omega
 have h := this l []
 rw [List.length_nil, Nat.zero_add] at h
 exact h
end Go.Proofs.YthoojcdjjecogaaGreatDoor
namespace Go.Proofs.YthoojcdjjecogaaGreatDoor
open Go Go.RowKit

structure Vl where
 k : Int
 t : ByteArray
 b : Bool
 n : Bool
 s : ByteArray
 S : Int
 m : Mo
namespace Lx
def zero : Vl := ⟨0, ⟨#[]⟩, false, false, ⟨#[]⟩, 0, Mo.nil⟩
end Lx
def Vl.list (v : Vl) : List Value := [.int .i64 v.k, .string v.t, .bool v.b, .bool v.n, .string v.s, .int .i64 v.S] ++ v.m.list
def Vl.val (v : Vl) (l : Value) : Value := .agg (v.list ++ [l]).toArray
def nilL : Value := .slice none 0 0
namespace Lx
def strT : ByteArray := ⟨#[116, 114, 117, 101]⟩
def strF : ByteArray := ⟨#[102, 97, 108, 115, 101]⟩
def truthV (s : ByteArray) : Vl × Int :=
 if s = strT \/ s = ⟨#[49]⟩ then (⟨2, ⟨#[]⟩, true, false, ⟨#[]⟩, 0, Mo.nil⟩, 0) else if s = strF \/ s = ⟨#[48]⟩ then (⟨2, ⟨#[]⟩, false, false, ⟨#[]⟩, 0, Mo.nil⟩, 0) else (zero, 6)
def numV (r : Res) : Vl × Int := if r.k = 0 then (⟨3, ⟨#[]⟩, false, r.n, r.s, r.S, Mo.nil⟩, 0) else (zero, r.k)
def momV (q : Mo × Int) : Vl × Int := if q.2 = 0 then (⟨4, ⟨#[]⟩, false, false, ⟨#[]⟩, 0, q.1⟩, 0) else (zero, q.2)
def half (c : Nat) : Option Nat := if 48 <= c /\ c <= 57 then some (c - 48) else if 97 <= c /\ c <= 102 then some (c - 87) else if 65 <= c /\ c <= 70 then some (c - 55) else none
def hexL : List Nat -> Option (List Nat)
 | [] => some []
 | [_] => none
 | a :: b :: r => (half a).bind fun x => (half b).bind fun y => (hexL r).map fun l => (16 * x + y) :: l
def hexV (l : List Nat) : Vl × Int := match hexL l with
 | some m => (⟨5, str m, false, false, ⟨#[]⟩, 0, Mo.nil⟩, 0)
 | none => (zero, 6)
def readS (p : Int) (s : ByteArray) : Vl × Int := if p = 2 then truthV s else if p = 3 then numV (readR (bts s)) else if p = 7 then hexV (bts s) else momV (Mo.readM (p - 3) (bts s))
def readV (p : Int) (t : ByteArray) : Vl × Int :=
 if p < 1 \/ 7 < p then (zero, 2) else if 300 < t.size then (zero, 3) else if wrongI t ≠ -1 then (zero, 6) else if p = 1 then (⟨1, t, false, false, ⟨#[]⟩, 0, Mo.nil⟩, 0) else readS p (str (sqTwo (bts t)))
def bareB (v : Vl) : Bool := (decide (v.k = 1) || decide (v.k = 5) || decide (v.t = ⟨#[]⟩)) && (decide (v.k = 2) || !v.b) && (decide (v.k = 3) || (!v.n && decide (v.s = ⟨#[]⟩) && decide (v.S = 0))) && (decide (v.k = 4) || Ex.valsEq v.m.list Mo.nil.list)
end Lx
end Go.Proofs.YthoojcdjjecogaaGreatDoor
namespace Go.Proofs.YthoojcdjjecogaaGreatDoor
open Go Go.RowKit
namespace Lx
def asc (l : List Nat) : Prop := ∀ c ∈ l, 33 <= c /\ c <= 126
theorem asc_dec {c : Nat} {l : List Nat} (h1 : 33 <= c) (h2 : c <= 126) : Ch.dec (c :: l) = some (c, 1) := by
 have hr : Ch.raw (c :: l) = some (c, 1) := by
  unfold Ch.raw
  simp only [List.getD_cons_zero]
  rw [if_neg (show ¬(c :: l).length = 0 by simp), if_pos (show c < 128 by omega)]
 have hg : Ch.good c 1 = true := by
  unfold Ch.good
  have hv : Ch.valid (c : Int) = true := by unfold Ch.valid; simp; omega
  have hl : Ch.lenN c = 1 := by unfold Ch.lenN; rw [if_pos (by omega)]
  rw [hv, hl]; rfl
 unfold Ch.dec
 rw [hr]
 simp only [hg, if_true]
theorem asc_items : ∀ (f : Nat) (l : List Nat) (i : Nat), asc l -> ∀ y ∈ Ch.items f l i, 0 <= y.2
 | 0, _, _, _, y, hy => by unfold Ch.items at hy; cases hy
 | f + 1, [], _, _, y, hy => by unfold Ch.items at hy; rw [if_pos rfl] at hy; cases hy
 | f + 1, c :: l, i, h, y, hy => by
  have hc := h c (List.mem_cons_self ..)
  unfold Ch.items at hy
  rw [if_neg (by simp), asc_dec hc.1 hc.2] at hy
  simp only [List.mem_cons] at hy
  rcases hy with rfl | hy
  ·show (0 : Int) <= (c : Int)
   omega
  ·exact asc_items f _ _ (fun d hd => h d (List.mem_cons_of_mem _ (by simpa using hd))) y hy
theorem asc_wrong {s : ByteArray} (h : asc (bts s)) : wrongI s = -1 := wrongI_of_all (asc_items _ _ _ h)
theorem asc_sqB {c : Nat} (h : 33 <= c /\ c <= 126) : sqB c = c := by
 unfold sqB
 rw [if_neg (by simp [Ch.blank]; omega)]
theorem asc_row (l : List Nat) : ∀ out : List Nat, asc l -> l.foldl sqStep out = out ++ l := by
 induction l with
 | nil => intro out _; simp
 | cons c l ih =>
  intro out h
  have hc := h c (List.mem_cons_self ..)
  have e : sqStep out c = out ++ [c] := by
   unfold sqStep
   rw [asc_sqB hc, if_neg (fun q => by have := q.1; omega)]
  rw [List.foldl_cons, e, ih _ (fun d hd => h d (List.mem_cons_of_mem _ hd)), List.append_assoc]
  rfl
theorem asc_sq {l : List Nat} (h : asc l) : sqTwo l = l := by
 have e : sqRow l = l := by unfold sqRow; rw [asc_row l [] h]; rfl
 unfold sqTwo
 rw [e, if_neg (fun q => by
  have := h 32 (List.mem_of_getLast? q)
  omega)]
theorem asc_nil : asc [] := fun _ h => by cases h
theorem asc_app {a b : List Nat} (ha : asc a) (hb : asc b) : asc (a ++ b) := fun c hc => (List.mem_append.1 hc).elim (ha c) (hb c)
theorem asc_cons {a : Nat} {b : List Nat} (h1 : 33 <= a /\ a <= 126) (hb : asc b) : asc (a :: b) := fun c hc => by
 rcases List.mem_cons.1 hc with rfl | h
 ·exact h1
 ·exact hb c h
theorem asc_dig {l : List Nat} (h : l.all Dc.dig = true) : asc l := fun c hc => by
 have := Dc.dig_iff.1 (List.all_eq_true.1 h c hc)
 omega
theorem asc_pad (k n : Nat) : asc (Dc.pad k n) := asc_dig (Dc.pad_dig k n)
theorem asc_txt (neg : Bool) {l : List Nat} (S : Nat) (h : l.all Dc.dig = true) : asc (Dc.txt neg l S) := by
 have hw := asc_dig (Dc.wide_dig S h)
 have hd : asc (Dc.dotted l S) := by
  unfold Dc.dotted
  split
  ·exact hw
  ·exact asc_app (fun c hc => hw c (List.mem_of_mem_take hc)) (asc_cons (by decide) (fun c hc => hw c (List.mem_of_mem_drop hc)))
 unfold Dc.txt
 split
 ·exact asc_cons (by decide) hd
 ·exact hd
theorem asc_date (x : Mo) : asc (Mo.dateL x) := by
 unfold Mo.dateL
 refine asc_app ?_ (asc_app (asc_pad _ _) (asc_cons (by decide) (asc_app (asc_pad _ _) (asc_cons (by decide) (asc_pad _ _)))))
 split
 ·exact asc_cons (by decide) asc_nil
 ·exact asc_nil
theorem asc_sec {x : Mo} (h : Mo.secB x = true) : asc (Mo.secL x) := by
 obtain ⟨p, q, _, hp, hq, hs, _⟩ := Mo.secL_form h
 rcases hs with ⟨_, e⟩ | ⟨_, e⟩
 ·rw [e]; exact asc_dig hp
 ·rw [e]; exact asc_app (asc_dig hp) (asc_cons (by decide) (asc_dig hq))
theorem asc_time {x : Mo} (h : Mo.secB x = true) : asc (Mo.timeL x) := by
 unfold Mo.timeL
 exact asc_app (asc_pad _ _) (asc_cons (by decide) (asc_app (asc_pad _ _) (asc_cons (by decide) (asc_sec h))))
theorem asc_zone (x : Mo) : asc (Mo.zoneL x) := by
 unfold Mo.zoneL
 split
 ·exact asc_nil
 split
 ·exact asc_cons (by decide) asc_nil
 ·refine asc_cons (by split <;> decide) (asc_app (asc_pad _ _) (asc_cons (by decide) (asc_pad _ _)))
theorem asc_mo {x : Mo} (h : Mo.Ok x) : asc (Mo.textL x) := by
 obtain ⟨h1, h2, h3, h4, h5, h6⟩ := h
 unfold Mo.textL
 refine asc_app ?_ (asc_app ?_ (asc_app ?_ (asc_zone x)))
 ·split
  ·exact asc_nil
  ·exact asc_date x
 ·split
  ·exact asc_cons (by decide) asc_nil
  ·exact asc_nil
 ·split
  ·exact asc_nil
  ·rename_i hk
   rw [if_neg hk] at h6
   exact asc_time h6.1
theorem asc_low {l : List Nat} (h : asc l) : ∀ c ∈ l, c < 256 := fun c hc => by have := h c hc; omega
end Lx
theorem doneM_ok {k : Int} {p : Mo × List Nat} (h : (Mo.doneM k p).2 = 0) : Mo.okB (Mo.doneM k p).1 = true /\ (Mo.doneM k p).1.k = p.1.k := by
 unfold Mo.doneM at h ⊢
 by_cases h1 : k = 1
 ·rw [if_pos h1] at h ⊢
  by_cases h2 : Mo.okB p.1 = true
  ·rw [if_pos h2]; exact ⟨h2, rfl⟩
  ·rw [if_neg h2] at h; cases h
 ·rw [if_neg h1] at h ⊢
  by_cases h2 : (readR p.2).k ≠ 0
  ·rw [if_pos h2] at h; exact absurd h h2
  ·rw [if_neg h2] at h ⊢
   by_cases h3 : Mo.okB (Mo.withS p.1 (readR p.2)) = true
   ·rw [if_pos h3]; exact ⟨h3, rfl⟩
   ·rw [if_neg h3] at h; cases h
theorem partsP_k {k : Int} {l : List Nat} {p : Mo × List Nat} (h : Mo.partsP k l = some p) : p.1.k = k := by
 unfold Mo.partsP at h
 simp only [Option.bind_eq_some_iff, Option.some.injEq] at h
 obtain ⟨_, _, _, _, _, _, _, _, rfl⟩ := h
 rfl
theorem readM_ok {k : Int} {l : List Nat} (h : (Mo.readM k l).2 = 0) : Mo.okB (Mo.readM k l).1 = true /\ (Mo.readM k l).1.k = k := by
 unfold Mo.readM at h ⊢
 by_cases h1 : k = 1 \/ k = 2 \/ k = 3
 ·rw [if_pos h1] at h ⊢
  cases hp : Mo.partsP k l with
  | none => rw [hp] at h; cases h
  | some p =>
   rw [hp] at h
   have q := doneM_ok h
   exact ⟨q.1, q.2.trans (partsP_k hp)⟩
 ·rw [if_neg h1] at h; cases h
end Go.Proofs.YthoojcdjjecogaaGreatDoor
namespace Go.Proofs.YthoojcdjjecogaaGreatDoor
open Go Go.RowKit
def Cutt (m : List Nat) (k : Nat) (p : Bool) (a b : List Nat) : Prop :=
 (p = false /\ k <= (Dc.whole m).length /\ a = m /\ b = []) \/ (p = true /\ a = Dc.whole m /\ b = Dc.part m)
theorem Cutt.next {m : List Nat} {k : Nat} {a b : List Nat} (h : Cutt m k false a b) (hne : m.getD k 0 ≠ 46) (hk : k < m.length) : Cutt m (k + 1) false a b := by
 rcases h with ⟨h1, h2, h3⟩ | ⟨h1, _⟩
 ·refine .inl ⟨rfl, ?_, h3⟩
  rcases Nat.lt_or_ge k (Dc.whole m).length with h | h
  ·exact h
  ·exfalso
   have e : k = (Dc.whole m).length := by omega
   rw [e] at hne hk
   exact hne (Dc.whole_at hk).1
 ·cases h1
theorem Cutt.done {m : List Nat} {k : Nat} {p : Bool} {a b : List Nat} (h : Cutt m k p a b) (hp : p = true \/ k = m.length) : a = Dc.whole m /\ b = Dc.part m := by
 rcases h with ⟨h1, h2, h3, h4⟩ | ⟨_, h⟩
 ·rcases hp with hp | hp
  ·rw [h1] at hp; cases hp
  ·have e := Dc.whole_length m
   obtain ⟨a1, a2⟩ := Dc.whole_all (l := m) (by omega)
   rw [a1, a2]; exact ⟨h3, h4⟩
 ·exact h
namespace Lx
end Lx
theorem readR_num {l m : List Nat} {neg : Bool} (hu : Dc.unsign l = (neg, m)) (ho : onlyL (allL m) = true) : readR l =
  if Lx.frontZ (Dc.whole m ++ Lx.backZ (Dc.part m)) = [] then ⟨false, str [48], 0, 0⟩ else if okB neg (str (Lx.frontZ (Dc.whole m ++ Lx.backZ (Dc.part m)))) ((Lx.backZ (Dc.part m)).length : Int) = true then ⟨neg, str (Lx.frontZ (Dc.whole m ++ Lx.backZ (Dc.part m))), ((Lx.backZ (Dc.part m)).length : Int), 0⟩ else ⟨false, ⟨#[]⟩, 0, 7⟩ := by
 rw [readR_yes hu ho]
 unfold onlyL allL at ho
 obtain ⟨h1, h2⟩ := Lx.dig_append.1 (Bool.and_eq_true _ _ ▸ ho).1
 exact Lx.num_can neg _ _ h1 h2
end Go.Proofs.YthoojcdjjecogaaGreatDoor
namespace Go.Proofs.YthoojcdjjecogaaGreatDoor
open Go Go.RowKit

structure Ch (S : List Nat) (w w' : World) : Prop where
 os : w'.os = w.os
 tape : w'.tape = w.tape
 output : w'.output = w.output
 size : w.heap.size <= w'.heap.size
 block : ∀ k, k < w.heap.size -> k ∉ S -> w'.heap[k]? = w.heap[k]?
theorem Ch.refl (S : List Nat) (w : World) : Ch S w w := ⟨rfl, rfl, rfl, Nat.le_refl _, fun _ _ _ => rfl⟩
theorem Ch.trans {S : List Nat} {a b c : World} (h : Ch S a b) (k : Ch S b c) : Ch S a c :=
 ⟨k.os.trans h.os, k.tape.trans h.tape, k.output.trans h.output, Nat.le_trans h.size k.size, fun i hi hS => (k.block i (Nat.lt_of_lt_of_le hi h.size) hS).trans (h.block i hi hS)⟩
theorem Ch.mono {S T : List Nat} {a b : World} (h : Ch S a b) (hs : ∀ k ∈ S, k ∈ T) : Ch T a b := ⟨h.os, h.tape, h.output, h.size, fun k hk hT => h.block k hk (fun hS => hT (hs k hS))⟩
theorem Ch.ofBelow {S : List Nat} {w w' : World} (h : Below w.heap.size w w') : Ch S w w' := ⟨h.os, h.tape, h.output, h.size, fun k hk _ => h.block k hk⟩
theorem Ch.ofGrown {S : List Nat} {g : Nat} {w w' : World} (h : w.grownBy w' (some g)) (hg : g ∈ S) : Ch S w w' := ⟨h.os, h.tape, h.output, h.size, fun k hk hS => h.block k hk (fun e => by cases e; exact hS hg)⟩
theorem Ch.below {S : List Nat} {B : Nat} {w w' : World} (h : Ch S w w') (hB : B <= w.heap.size) (hS : ∀ k ∈ S, B <= k) : Below B w w' :=
 ⟨h.os, h.tape, h.output, h.size, fun k hk => h.block k (by omega) (fun hm => by have := hS k hm; omega)⟩
theorem Ch.blk {S : List Nat} {w w' : World} {g : Nat} {t : TypeId} {cs : Array Value} (h : Ch S w w') (hb : Blk w g t cs) (hg : g ∉ S) : Blk w' g t cs := (h.block g hb.lt hg).trans hb
theorem Ch.set {S : List Nat} {w w' : World} {g : Nat} (h : Ch S w w') (hg : g ∈ S) (j : Nat) (v : Value) : Ch S w (w'.setCell ⟨g, j, none⟩ v) :=
 h.trans ⟨rfl, rfl, rfl, by simp [World.setCell], fun k _ hS => Below.heap_setCell _ _ _ _ (fun e => hS (by rw [e]; exact hg))⟩
theorem Ch.alloc {S : List Nat} {w w' : World} (h : Ch S w w') (o : Obj) : Ch S w (w'.alloc o) := h.trans (Ch.ofBelow (below_new _ _))
theorem Blk.set {w : World} {g : Nat} {t : TypeId} {cs : Array Value} (hb : Blk w g t cs) (j : Nat) (v : Value) : Blk (w.setCell ⟨g, j, none⟩ v) g t (cs.setIfInBounds j v) := by
 show (w.heap.modify g _)[g]? = _
 have hk := Array.getElem?_eq_some_iff.1 hb
 rw [Array.getElem?_eq_getElem (by rw [Array.size_modify]; exact hk.1), Array.getElem_modify_self, hk.2]
 rfl
theorem Blk.other {w : World} {g h : Nat} {t : TypeId} {cs : Array Value} (hb : Blk w g t cs) (hn : g ≠ h) (j : Nat) (v : Value) : Blk (w.setCell ⟨h, j, none⟩ v) g t cs :=
 (Below.heap_setCell w ⟨h, j, none⟩ v g hn).trans hb
def Left (o : Option (List Nat)) (s : ByteArray) (q : Bool) : Prop := s.size <= 300 /\ match o with
 | some l => q = false /\ bts s = l
 | none => q = true
def putL (cs : Array Value) (o : Nat) : List Value -> Array Value
 | [] => cs
 | v :: vs => putL (cs.setIfInBounds o v) (o + 1) vs
theorem blk_setCells {g : Nat} {t : TypeId} : ∀ (vs : List Value) {w : World} {cs : Array Value} (o : Nat), Blk w g t cs -> Blk (w.setCells g o vs) g t (putL cs o vs) /\ w.grownBy (w.setCells g o vs) (some g)
 | [], w, cs, o, h => ⟨h, ⟨rfl, rfl, rfl, Nat.le_refl _, fun _ _ _ => rfl⟩⟩
 | v :: vs, w, cs, o, h => by
  have h1 := h.set o v
  obtain ⟨a, b⟩ := blk_setCells vs (o + 1) h1
  have b1 : w.grownBy (w.setCell ⟨g, o, none⟩ v) (some g) := ⟨rfl, rfl, rfl, by simp [World.setCell], fun k _ hne => Below.heap_setCell _ _ _ _ (fun e => hne (by rw [e]))⟩
  exact ⟨a, ⟨b.os.trans b1.os, b.tape.trans b1.tape, b.output.trans b1.output, Nat.le_trans b1.size b.size, fun k hk hne => (b.block k (Nat.lt_of_lt_of_le hk b1.size) hne).trans (b1.block k hk hne)⟩⟩
theorem wl_storeM {ops : Array Oper} {o : Oper} {a : Act} {w : World} {Q : Exit -> Act -> World -> Prop} {rest : List Oper} {g : Nat} {t ty : TypeId} {cs : Array Value} (hb : Blk w g t cs) (hg : o.guard = none) {j : Nat} {xs : Array Value} (x y : Operand) (ho : o.op = .store ty x y) (hx : a.eval x = .pointer (some ⟨g, j, none⟩)) (hy : a.eval y = .agg xs)
  (ha : aggT ty xs.size = true) (hj : j + xs.size <= cs.size) (h1 : xs.toList.all (·.oneCell') = true) (hd : o.dst = none) (h : ∀ W, Blk W g t (putL cs j xs.toList) -> w.grownBy W (some g) -> wpList Tryz.prog ops Q rest a W) : wpList Tryz.prog ops Q (o :: rest) a w := by
 refine wpList_store_mid hg ty x y ho g j xs hx hy (fun i hi => ⟨?_, hb.free _⟩) (aggT_size ha) (by rw [<- Array.all_toList]; exact h1) ?_
 ·rw [hb.cell, Array.getElem?_eq_getElem (by omega)]; rfl
 ·rw [hd]
  obtain ⟨b1, b2⟩ := blk_setCells xs.toList j hb
  exact h _ b1 b2

def RR (w : World) (b : Nat) (s : ByteArray) (q : Bool) : Prop := Blk w b 92 #[.string s, .bool q]
theorem RR.c0 {w : World} {b : Nat} {s : ByteArray} {q : Bool} (h : RR w b s q) : w.cell? ⟨b, 0, none⟩ = some (.string s) := h.at rfl
theorem RR.c1 {w : World} {b : Nat} {s : ByteArray} {q : Bool} (h : RR w b s q) : w.cell? ⟨b, 1, none⟩ = some (.bool q) := h.at rfl
theorem RR.f0 {w : World} {b : Nat} {s : ByteArray} {q : Bool} (h : RR w b s q) (j : Nat) : w.frozen? ⟨b, j, none⟩ = false := Blk.free h j
theorem RR.put {w : World} {b : Nat} {s : ByteArray} {q : Bool} (h : RR w b s q) (t : ByteArray) : RR (w.setCell ⟨b, 0, none⟩ (.string t)) b t q := Blk.set h 0 (.string t)
theorem bts_head {s : ByteArray} (h : 0 < s.size) : bts s = (s[0]'h).toNat :: (bts s).tail := by
 have hl : 0 < (bts s).length := by rw [bts_length]; exact h
 have e := bts_get s 0 h
 cases hb : bts s with
 | nil => rw [hb] at hl; cases hl
 | cons a l =>
  simp only [hb, List.getElem_cons_zero] at e
  rw [e]; rfl
theorem bts_none {s : ByteArray} (h : s.size = 0) : bts s = [] := List.length_eq_zero_iff.1 ((bts_length s).trans h)
def RdO (w : World) (b : Nat) (o : Option (List Nat)) : Prop := ∃ s q, RR w b s q /\ Left o s q
theorem RdO.lt {w : World} {b : Nat} {o : Option (List Nat)} (h : RdO w b o) : b < w.heap.size := by
 obtain ⟨s, q, h, _⟩ := h
 exact Blk.lt h
theorem RdO.ch {S : List Nat} {w w' : World} {b : Nat} {o : Option (List Nat)} (h : RdO w b o) (hc : Ch S w w') (hb : b ∉ S) : RdO w' b o := by
 obtain ⟨s, q, h, hl⟩ := h
 exact ⟨s, q, hc.blk h hb, hl⟩
theorem want_has (c : Nat) (l : List Nat) : Mo.wantP c l = if (Mo.hasP c l).1 then some (Mo.hasP c l).2 else none := by
 cases l with
 | nil => rfl
 | cons a r =>
  unfold Mo.wantP Mo.hasP
  by_cases h : a = c <;> simp [h]
theorem num_none {m k : Nat} {l : List Nat} (hk : k < m) (h : ∀ c r, l.drop k = c :: r -> Dc.dig c = false) : Mo.numP m l = none := by
 unfold Mo.numP
 rw [if_neg]
 rintro ⟨h1, h2⟩
 have hk2 : k < l.length := by omega
 have e := List.drop_eq_getElem_cons hk2
 have h3 := h _ _ e
 have h4 : l[k] ∈ l.take m := by
  rw [List.mem_take_iff_getElem]
  exact ⟨k, by omega, rfl⟩
 have := List.all_eq_true.1 h2 _ h4
 rw [this] at h3; cases h3
def twoL : Nat -> Nat -> List Nat
 | 0, _ => []
 | m + 1, n => twoL m (n / 10) ++ [48 + n % 10]

theorem itoa_is (n : Nat) (hn : n <= 1000000) (w : World) (hP : Pow w) : Calls Tryz.prog 124 #[.int .i64 (n : Int)] w fun e w' => ∃ t : ByteArray, e = .returned (.string t) /\ bts t = Dc.digs n /\ Below w.heap.size w w' := by
 refine (Tryz.strconv_Itoa (n : Int) (by omega) (by omega) w hP).mono ?_
 rintro e w' ⟨rfl, k, os, rfl⟩
 refine ⟨_, rfl, ?_, Lib.below_grow _ _ (Nat.le_refl _) _ _⟩
 have e : Lib.itoa (n : Int) = Lib.decDigits n := by unfold Lib.itoa; rw [if_neg (by omega)]; rfl
 rw [e]; exact bts_dec n
theorem ppadded_is (n m : Nat) (hm : m <= 4) (hn : n <= 1000000) (w : World) (hP : Pow w) : Calls Tryz.prog 101 #[.int .i64 (n : Int), .int .i64 (m : Int)] w fun e w' => e = .returned (.string (str (Dc.pad m n))) /\ Below w.heap.size w w' := by
 have CI := Lib.hid (itoa_is n hn w hP)
 clear hP
 have hdl : (Dc.digs n).length <= 7 := (Dc.digs_length (by decide)).2 (by omega)
 go_enter Tryz.func101, Tryz.ntmps101
 go_wp2_with fail
 refine (CI.out).mono ?_
 rintro e w1 ⟨t, rfl, ht, hb1⟩
 obtain ⟨c, hc⟩ : ∃ c : Nat, c = m - (Dc.digs n).length := ⟨_, rfl⟩
 have htl : (t.size : Int) = ((Dc.digs n).length : Int) := by rw [<- bts_length, ht]
 have hmx : max (0 : Int) ((m : Int) - (t.size : Int)) = (c : Int) := by omega
 have hc2 : c <= 1000 := by omega
 have htz : t.size <= 7 := by omega
 have CR := Lib.hid (repeat_zeros c hc2 w1)
 have HC := Lib.hid hc
 have HT := Lib.hid ht
 clear hc ht htl CI
 go_wp2_with fail
 refine (CR.out).mono ?_
 rintro e w2 ⟨⟨r, rfl, hr⟩, hb2⟩
 have hrl : r.size <= 1000 := by rw [<- bts_length, hr, List.length_replicate]; exact hc2
 have HR := Lib.hid hr
 have HV : Hid (r ++ t = str (Dc.pad m n)) := Lib.hid (by
  rw [<- str_bts (r ++ t), str_add, hr, HT.out]
  unfold Dc.pad
  rw [HC.out])
 clear hr CR
 go_wp2
 go_ret
 exact ⟨by show Ending.returned (.string (r ++ t)) = _; rw [HV.out], hb1.trans (hb2.mono hb1.size)⟩
theorem ptrim_is (s : ByteArray) (w : World) : Calls Tryz.prog 191 #[.string s, .string ⟨#[48, 49, 50, 51, 52, 53, 54, 55, 56, 57]⟩] w fun e w' => ∃ t : ByteArray, e = .returned (.string t) /\ bts t = Mo.runR (bts s) /\ Below w.heap.size w w' := by
 refine (Any.strings_TrimLeft_laid Tryz.lays161 (by kernel_rfl) s _ w (by decide) ?_).mono ?_
 ·intro j b hj
  have hm : b ∈ ([48, 49, 50, 51, 52, 53, 54, 55, 56, 57] : List UInt8) := List.mem_of_getElem? hj
  simp only [List.mem_cons, List.not_mem_nil, or_false] at hm
  rcases hm with rfl | rfl | rfl | rfl | rfl | rfl | rfl | rfl | rfl | rfl <;> decide
 ·rintro e w' ⟨rfl, hb⟩
  refine ⟨_, rfl, ?_, hb⟩
  unfold Lib.trimLeftS Mo.runR bts
  show ((s.data.toList.dropWhile _).map UInt8.toNat) = _
  induction s.data.toList with
  | nil => rfl
  | cons a l ih =>
   have e : ([48, 49, 50, 51, 52, 53, 54, 55, 56, 57] : List UInt8).contains a = Dc.dig a.toNat := by
    rw [Bool.eq_iff_iff, List.contains_iff_mem, Dc.dig_iff]
    simp only [List.mem_cons, List.not_mem_nil, or_false]
    constructor
    ·intro h
     rcases h with rfl | rfl | rfl | rfl | rfl | rfl | rfl | rfl | rfl | rfl <;> decide
    ·intro h
     have : a = UInt8.ofNat a.toNat := by simp
     rw [this]
     obtain ⟨h1, h2⟩ := h
     generalize a.toNat = n at *
     have : n = 48 \/ n = 49 \/ n = 50 \/ n = 51 \/ n = 52 \/ n = 53 \/ n = 54 \/ n = 55 \/ n = 56 \/ n = 57 := by omega
     rcases this with rfl | rfl | rfl | rfl | rfl | rfl | rfl | rfl | rfl | rfl <;> decide
   show List.map _ (List.dropWhile (fun x => ([48, 49, 50, 51, 52, 53, 54, 55, 56, 57] : List UInt8).contains x) (a :: l)) = _
   rw [List.dropWhile_cons, List.map_cons, List.dropWhile_cons, e]
   cases Dc.dig a.toNat with
   | true => exact ih
   | false => rfl
end Go.Proofs.YthoojcdjjecogaaGreatDoor
namespace Go.Proofs.YthoojcdjjecogaaGreatDoor
open Go Go.RowKit
namespace Mo
theorem no {α : Type} {x : α} {P : Prop} (h : none = some x) : P := by cases h
abbrev Ob := Option (List Nat)
theorem run_cons {c : Nat} {l : List Nat} (h : Dc.dig c = true) : runD (c :: l) = c :: runD l /\ runR (c :: l) = runR l := by
 unfold runD runR; simp [h]
theorem has_no {c : Nat} {l : List Nat} (h : (hasP c l).1 = false) : (hasP c l).2 = l := by
 cases l with
 | nil => rfl
 | cons a r =>
  by_cases ha : a = c
  ·rw [ha, hasP_yes] at h; cases h
  ·rw [hasP_no r ha]
end Mo
end Go.Proofs.YthoojcdjjecogaaGreatDoor
namespace Go.Proofs.YthoojcdjjecogaaGreatDoor
open Go Go.RowKit
def sqUpto (l : List Nat) (k : Nat) : List Nat := (l.take k).map sqB ++ l.drop k
theorem sqUpto_length (l : List Nat) (k : Nat) : (sqUpto l k).length = l.length := by
 simp [sqUpto]; omega
theorem sqUpto_get (l : List Nat) (k : Nat) (h : k < l.length) : (sqUpto l k).getD k 0 = l[k] := by
 have h1 : ((l.take k).map sqB).length = k := by simp; omega
 rw [List.getD_eq_getElem?_getD, sqUpto, List.getElem?_append_right (by omega), h1, Nat.sub_self, List.getElem?_drop]
 simp [h]
theorem sqUpto_set (l : List Nat) (k : Nat) (h : k < l.length) : (sqUpto l k).set k (sqB l[k]) = sqUpto l (k + 1) := by
 have h1 : ((l.take k).map sqB).length = k := by simp; omega
 rw [sqUpto, List.set_append_right _ _ (by omega), h1, Nat.sub_self, List.drop_eq_getElem_cons h, List.set_cons_zero, sqUpto, List.take_succ_eq_append_getElem h, List.map_append, List.append_assoc]
 rfl
theorem sqUpto_same (l : List Nat) (k : Nat) (h : k < l.length) (hs : sqB l[k] = l[k]) : sqUpto l (k + 1) = sqUpto l k := by
 rw [sqUpto, sqUpto, List.take_succ_eq_append_getElem h, List.drop_eq_getElem_cons h, List.map_append, List.append_assoc, List.map_cons, List.map_nil, hs]
 rfl
theorem sqUpto_all (l : List Nat) (k : Nat) (h : l.length <= k) : sqUpto l k = l.map sqB := by
 simp [sqUpto, List.take_of_length_le h, List.drop_eq_nil_of_le h]

theorem split_nil (c : UInt8) : Lib.split [] [c] = [[]] := by
 unfold Lib.split
 rw [Lib.count_one]; rfl
theorem split_eq (c : UInt8) (l : List UInt8) : Lib.split (c :: l) [c] = [] :: Lib.split l [c] := by
 have hix : Lib.index (c :: l) [c] = 0 := by rw [Lib.index]; simp [List.isPrefixOf]
 unfold Lib.split
 rw [Lib.count_cons_eq, Nat.add_comm, Lib.splitK, hix]
 simp
theorem split_ne (b c : UInt8) (l : List UInt8) (h : b ≠ c) (w0 : List UInt8) (rest : List (List UInt8)) (hs : Lib.split l [c] = w0 :: rest) : Lib.split (b :: l) [c] = (b :: w0) :: rest := by
 have hp : ([c] : List UInt8).isPrefixOf (b :: l) = false := by simp [List.isPrefixOf, Ne.symm h]
 have hix : Lib.index (b :: l) [c] = if Lib.index l [c] == -1 then -1 else Lib.index l [c] + 1 := by rw [Lib.index, hp]; simp
 by_cases hm : Lib.index l [c] = -1
 ·unfold Lib.split at hs ⊢
  rw [Lib.count_cons_ne b c l h]
  rw [Lib.count_miss hm] at hs ⊢
  simp only [Lib.splitK, List.cons.injEq] at hs ⊢
  exact ⟨⟨trivial, hs.1⟩, hs.2⟩
 ·have hge := Lib.index_ge l [c]
  obtain ⟨j, hj⟩ : ∃ j : Nat, Lib.index l [c] = j := ⟨(Lib.index l [c]).toNat, by omega⟩
  have hix' : Lib.index (b :: l) [c] = ((j + 1 : Nat) : Int) := by rw [hix, if_neg (fun e => hm (beq_iff_eq.1 e)), hj]; omega
  unfold Lib.split at hs ⊢
  rw [Lib.count_cons_ne b c l h]
  rw [Lib.count_hit (by simp) hj, Nat.add_comm, Lib.splitK, if_neg (by rw [hj]; simp), hj] at hs
  rw [Lib.count_hit (by simp) hj, Nat.add_comm, Lib.splitK, if_neg (by rw [hix']; simp; omega), hix']
  simp only [List.cons.injEq] at hs
  obtain ⟨h1, h2⟩ := hs
  simp only [Int.toNat_natCast, Nat.add_zero, List.length_cons, List.length_nil, Nat.zero_add] at h1 h2 ⊢
  rw [List.take_succ_cons, List.drop_succ_cons, h1, h2]

def sqF : Bool -> List UInt8 -> List UInt8
 | _, [] => []
 | true, c :: l => if c = 32 then sqF true l else c :: sqF false l
 | false, c :: l => if c = 32 then c :: sqF true l else c :: sqF false l
def trail (l : List UInt8) : List UInt8 := if l.getLast? = some 32 then l.dropLast else l
def full (ws : List (List UInt8)) : List (List UInt8) := ws.filter fun w => !w.isEmpty

theorem trail_cons (c : UInt8) (l : List UInt8) (h : c ≠ 32 \/ l ≠ []) : trail (c :: l) = c :: trail l := by
 unfold trail
 cases l with
 | nil =>
  have : c ≠ 32 := h.elim id (fun h => absurd rfl h)
  simp [this]
 | cons d l =>
  rw [List.getLast?_cons_cons]
  split
  ·rw [List.dropLast_cons_cons]
  ·rfl
theorem sqF_words (l : List UInt8) : trail (sqF true l) = Lib.join (full (Lib.split l [32])) [32] /\ (sqF true l = [] ↔ full (Lib.split l [32]) = []) /\
  ∃ w0 rest, Lib.split l [32] = w0 :: rest /\ trail (sqF false l) = w0 ++ Lib.joinTail [32] (full rest) := by
 induction l with
 | nil => exact ⟨by rw [split_nil]; rfl, by rw [split_nil]; exact ⟨fun _ => rfl, fun _ => rfl⟩, [], [], split_nil 32, rfl⟩
 | cons c l ih =>
  obtain ⟨iT, i0, w0, rest, hs, iF⟩ := ih
  by_cases hc : c = 32
  ·subst hc
   have e1 : full (Lib.split (32 :: l) [32]) = full (Lib.split l [32]) := by rw [split_eq]; rfl
   refine ⟨by rw [e1]; simpa [sqF] using iT, by rw [e1]; simpa [sqF] using i0, [], Lib.split l [32], split_eq 32 l, ?_⟩
   have e2 : sqF false (32 :: l) = 32 :: sqF true l := by simp [sqF]
   rw [e2, List.nil_append]
   by_cases hn : sqF true l = []
   ·rw [hn, i0.1 hn]; rfl
   ·rw [trail_cons _ _ (.inr hn), iT]
    cases hf : full (Lib.split l [32]) with
    | nil => exact absurd (i0.2 hf) hn
    | cons x r => rw [Lib.join_cons]; simp [Lib.joinTail]
  ·have hs2 := split_ne c 32 l hc w0 rest hs
   have e1 : full ((c :: w0) :: rest) = (c :: w0) :: full rest := rfl
   have e2 : ∀ b, sqF b (c :: l) = c :: sqF false l := fun b => by cases b <;> simp [sqF, hc]
   refine ⟨?_, ?_, c :: w0, rest, hs2, ?_⟩
   ·rw [e2, hs2, e1, Lib.join_cons, trail_cons _ _ (.inl hc), iF]; rfl
   ·rw [e2, hs2, e1]; simp
   ·rw [e2, trail_cons _ _ (.inl hc), iF]; rfl

theorem sqRow_eq (l : List Nat) (hl : ∀ c ∈ l, c < 256) : ∀ out : List Nat, (∀ c ∈ out, c < 256) ->
  (l.foldl sqStep out).map UInt8.ofNat = out.map UInt8.ofNat ++ sqF (decide (out = [] \/ out.getLast? = some 32)) ((l.map sqB).map UInt8.ofNat) := by
 induction l with
 | nil => intro out _; simp [sqF]
 | cons c l ih =>
  intro out ho
  have hc := hl c (by simp)
  have hb := sqB_lt hc
  have ih' := ih (fun d hd => hl d (by simp [hd]))
  have h32 : UInt8.ofNat (sqB c) = 32 ↔ sqB c = 32 := by
   constructor
   ·intro h
    have := congrArg UInt8.toNat h
    simpa [Nat.mod_eq_of_lt hb] using this
   ·intro h; rw [h]; rfl
  rw [List.foldl_cons, List.map_cons, List.map_cons]
  by_cases hx : sqB c = 32
  ·by_cases hf : out = [] \/ out.getLast? = some 32
   ·have e : sqStep out c = out := by rw [sqStep, if_pos ⟨hx, hf⟩]
    rw [e, ih' out ho, decide_eq_true hf, sqF, if_pos (h32.2 hx)]
   ·have e : sqStep out c = out ++ [sqB c] := by rw [sqStep, if_neg (fun h => hf h.2)]
    have hf2 : (out ++ [sqB c] = [] \/ (out ++ [sqB c]).getLast? = some 32) := .inr (by simp [hx])
    rw [e, ih' _ (by simpa using fun d hd => hd.elim (ho d) (fun h => h ▸ hb)), decide_eq_true hf2, decide_eq_false hf, sqF, if_pos (h32.2 hx)]
    simp
  ·have e : sqStep out c = out ++ [sqB c] := by rw [sqStep, if_neg (fun h => hx h.1)]
   have hf2 : ¬ (out ++ [sqB c] = [] \/ (out ++ [sqB c]).getLast? = some 32) := by simp [hx]
   rw [e, ih' _ (by simpa using fun d hd => hd.elim (ho d) (fun h => h ▸ hb)), decide_eq_false hf2]
   cases decide (out = [] \/ out.getLast? = some 32) <;> simp [sqF, h32, hx]
theorem sqRow_lt (l : List Nat) (hl : ∀ c ∈ l, c < 256) : ∀ c ∈ sqRow l, c < 256 := by
 have : ∀ (l : List Nat), (∀ c ∈ l, c < 256) -> ∀ out : List Nat, (∀ c ∈ out, c < 256) -> ∀ c ∈ l.foldl sqStep out, c < 256 := by
  intro l
  induction l with
  | nil => intro _ out ho; exact ho
  | cons d l ih =>
   intro hl out ho
   refine ih (fun c hc => hl c (by simp [hc])) _ ?_
   unfold sqStep
   split
   ·exact ho
   ·intro c hc
    rcases List.mem_append.1 hc with h | h
    ·exact ho c h
    ·rw [List.mem_singleton.1 h]; exact sqB_lt (hl d (by simp))
 exact this l hl [] (by simp)
theorem sqTwo_eq (l : List Nat) (hl : ∀ c ∈ l, c < 256) : (sqTwo l).map UInt8.ofNat = Lib.join (full (Lib.split ((l.map sqB).map UInt8.ofNat) [32])) [32] := by
 rw [<- (sqF_words _).1]
 have h := sqRow_eq l hl [] (by simp)
 simp only [List.map_nil, List.nil_append, true_or, decide_true] at h
 rw [<- h]
 have hlt := sqRow_lt l hl
 unfold sqTwo trail
 have e : ((List.foldl sqStep [] l).map UInt8.ofNat).getLast? = some 32 ↔ (sqRow l).getLast? = some 32 := by
  rw [List.getLast?_map]
  show Option.map UInt8.ofNat (sqRow l).getLast? = some 32 ↔ _
  cases hg : (sqRow l).getLast? with
  | none => simp
  | some c =>
   have hc := hlt c (List.mem_of_getLast? hg)
   simp only [Option.map_some, Option.some.injEq]
   constructor
   ·intro h
    have := congrArg UInt8.toNat h
    simpa [Nat.mod_eq_of_lt hc] using this
   ·intro h; rw [h]; rfl
 by_cases hg : (sqRow l).getLast? = some 32
 ·rw [if_pos hg, if_pos (e.2 hg), List.map_dropLast]; rfl
 ·rw [if_neg hg, if_neg (fun h => hg (e.1 h))]; rfl
end Go.Proofs.YthoojcdjjecogaaGreatDoor
