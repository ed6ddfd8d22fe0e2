/-
  Part 22 of the proof: what functions return, and plain facts (Mstate Mrrd Mpadded Mchain). Conditions: each theorem names its own.
-/
import Derived.Test.YtckodhldimhbfaaGreatDoorG21
import Derived.Test.YtckodhldimhbfaaGreatDoorG03
import Derived.Deep.MidRow
import Derived.Test.YtckodhldimhbfaaGreatDoorG04
import Derived.Test.YtckodhldimhbfaaGreatDoorG14
import Derived.Shelf.Strings.SlTrimAscii
set_option maxRecDepth 1000000
set_option maxHeartbeats 16000000
namespace Go.Proofs.YtckodhldimhbfaaGreatDoor
open Go Go.RowKit

structure Ch (S : List Nat) (w w' : World) : Prop where
 os : w'.os = w.os
 tape : w'.tape = w.tape
 output : w'.output = w.output
 size : w.heap.size <= w'.heap.size
 block : ∀ k, k < w.heap.size -> k ∉ S -> w'.heap[k]? = w.heap[k]?
theorem Ch.refl (S : List Nat) (w : World) : Ch S w w := ⟨rfl, rfl, rfl, Nat.le_refl _, fun _ _ _ => rfl⟩
theorem Ch.trans {S : List Nat} {a b c : World} (h : Ch S a b) (k : Ch S b c) : Ch S a c :=
 ⟨k.os.trans h.os, k.tape.trans h.tape, k.output.trans h.output, Nat.le_trans h.size k.size, fun i hi hS => (k.block i (Nat.lt_of_lt_of_le hi h.size) hS).trans (h.block i hi hS)⟩
theorem Ch.mono {S T : List Nat} {a b : World} (h : Ch S a b) (hs : ∀ k ∈ S, k ∈ T) : Ch T a b := ⟨h.os, h.tape, h.output, h.size, fun k hk hT => h.block k hk (fun hS => hT (hs k hS))⟩
theorem Ch.ofBelow {S : List Nat} {w w' : World} (h : Below w.heap.size w w') : Ch S w w' := ⟨h.os, h.tape, h.output, h.size, fun k hk _ => h.block k hk⟩
theorem Ch.ofGrown {S : List Nat} {g : Nat} {w w' : World} (h : w.grownBy w' (some g)) (hg : g ∈ S) : Ch S w w' := ⟨h.os, h.tape, h.output, h.size, fun k hk hS => h.block k hk (fun e => by cases e; exact hS hg)⟩
theorem Ch.below {S : List Nat} {B : Nat} {w w' : World} (h : Ch S w w') (hB : B <= w.heap.size) (hS : ∀ k ∈ S, B <= k) : Below B w w' :=
 ⟨h.os, h.tape, h.output, h.size, fun k hk => h.block k (by omega) (fun hm => by have := hS k hm; omega)⟩
theorem Ch.blk {S : List Nat} {w w' : World} {g : Nat} {t : TypeId} {cs : Array Value} (h : Ch S w w') (hb : Blk w g t cs) (hg : g ∉ S) : Blk w' g t cs := (h.block g hb.lt hg).trans hb
theorem Ch.set {S : List Nat} {w w' : World} {g : Nat} (h : Ch S w w') (hg : g ∈ S) (j : Nat) (v : Value) : Ch S w (w'.setCell ⟨g, j, none⟩ v) :=
 h.trans ⟨rfl, rfl, rfl, by simp [World.setCell], fun k _ hS => Below.heap_setCell _ _ _ _ (fun e => hS (by rw [e]; exact hg))⟩
theorem Ch.alloc {S : List Nat} {w w' : World} (h : Ch S w w') (o : Obj) : Ch S w (w'.alloc o) := h.trans (Ch.ofBelow (below_new _ _))
theorem Blk.set {w : World} {g : Nat} {t : TypeId} {cs : Array Value} (hb : Blk w g t cs) (j : Nat) (v : Value) : Blk (w.setCell ⟨g, j, none⟩ v) g t (cs.setIfInBounds j v) := by
 show (w.heap.modify g _)[g]? = _
 have hk := Array.getElem?_eq_some_iff.1 hb
 rw [Array.getElem?_eq_getElem (by rw [Array.size_modify]; exact hk.1), Array.getElem_modify_self, hk.2]
 rfl
theorem Blk.other {w : World} {g h : Nat} {t : TypeId} {cs : Array Value} (hb : Blk w g t cs) (hn : g ≠ h) (j : Nat) (v : Value) : Blk (w.setCell ⟨h, j, none⟩ v) g t cs :=
 (Below.heap_setCell w ⟨h, j, none⟩ v g hn).trans hb
def Left (o : Option (List Nat)) (s : ByteArray) (q : Bool) : Prop := s.size <= 300 /\ match o with
 | some l => q = false /\ bts s = l
 | none => q = true
def putL (cs : Array Value) (o : Nat) : List Value -> Array Value
 | [] => cs
 | v :: vs => putL (cs.setIfInBounds o v) (o + 1) vs
theorem blk_setCells {g : Nat} {t : TypeId} : ∀ (vs : List Value) {w : World} {cs : Array Value} (o : Nat), Blk w g t cs -> Blk (w.setCells g o vs) g t (putL cs o vs) /\ w.grownBy (w.setCells g o vs) (some g)
 | [], w, cs, o, h => ⟨h, ⟨rfl, rfl, rfl, Nat.le_refl _, fun _ _ _ => rfl⟩⟩
 | v :: vs, w, cs, o, h => by
  have h1 := h.set o v
  obtain ⟨a, b⟩ := blk_setCells vs (o + 1) h1
  have b1 : w.grownBy (w.setCell ⟨g, o, none⟩ v) (some g) := ⟨rfl, rfl, rfl, by simp [World.setCell], fun k _ hne => Below.heap_setCell _ _ _ _ (fun e => hne (by rw [e]))⟩
  exact ⟨a, ⟨b.os.trans b1.os, b.tape.trans b1.tape, b.output.trans b1.output, Nat.le_trans b1.size b.size, fun k hk hne => (b.block k (Nat.lt_of_lt_of_le hk b1.size) hne).trans (b1.block k hk hne)⟩⟩
theorem wl_storeM {ops : Array Oper} {o : Oper} {a : Act} {w : World} {Q : Exit -> Act -> World -> Prop} {rest : List Oper} {g : Nat} {t ty : TypeId} {cs : Array Value} (hb : Blk w g t cs) (hg : o.guard = none) {j : Nat} {xs : Array Value} (x y : Operand) (ho : o.op = .store ty x y) (hx : a.eval x = .pointer (some ⟨g, j, none⟩)) (hy : a.eval y = .agg xs)
  (ha : aggT ty xs.size = true) (hj : j + xs.size <= cs.size) (h1 : xs.toList.all (·.oneCell') = true) (hd : o.dst = none) (h : ∀ W, Blk W g t (putL cs j xs.toList) -> w.grownBy W (some g) -> wpList Tryz.prog ops Q rest a W) : wpList Tryz.prog ops Q (o :: rest) a w := by
 refine wpList_store_mid hg ty x y ho g j xs hx hy (fun i hi => ⟨?_, hb.free _⟩) (aggT_size ha) (by rw [<- Array.all_toList]; exact h1) ?_
 ·rw [hb.cell, Array.getElem?_eq_getElem (by omega)]; rfl
 ·rw [hd]
  obtain ⟨b1, b2⟩ := blk_setCells xs.toList j hb
  exact h _ b1 b2

def RR (w : World) (b : Nat) (s : ByteArray) (q : Bool) : Prop := Blk w b 79 #[.string s, .bool q]
theorem RR.c0 {w : World} {b : Nat} {s : ByteArray} {q : Bool} (h : RR w b s q) : w.cell? ⟨b, 0, none⟩ = some (.string s) := h.at rfl
theorem RR.c1 {w : World} {b : Nat} {s : ByteArray} {q : Bool} (h : RR w b s q) : w.cell? ⟨b, 1, none⟩ = some (.bool q) := h.at rfl
theorem RR.f0 {w : World} {b : Nat} {s : ByteArray} {q : Bool} (h : RR w b s q) (j : Nat) : w.frozen? ⟨b, j, none⟩ = false := Blk.free h j
theorem RR.put {w : World} {b : Nat} {s : ByteArray} {q : Bool} (h : RR w b s q) (t : ByteArray) : RR (w.setCell ⟨b, 0, none⟩ (.string t)) b t q := Blk.set h 0 (.string t)
theorem RR.mark {w : World} {b : Nat} {s : ByteArray} {q : Bool} (h : RR w b s q) (r : Bool) : RR (w.setCell ⟨b, 1, none⟩ (.bool r)) b s r := Blk.set h 1 (.bool r)
theorem bts_head {s : ByteArray} (h : 0 < s.size) : bts s = (s[0]'h).toNat :: (bts s).tail := by
 have hl : 0 < (bts s).length := by rw [bts_length]; exact h
 have e := bts_get s 0 h
 cases hb : bts s with
 | nil => rw [hb] at hl; cases hl
 | cons a l =>
  simp only [hb, List.getElem_cons_zero] at e
  rw [e]; rfl
theorem bts_take1 {s : ByteArray} (h : 0 < s.size) : bts (s.extract 0 1) = [(s[0]'h).toNat] := by
 rw [bts_extract, List.drop_zero, bts_head h]; rfl
theorem bts_none {s : ByteArray} (h : s.size = 0) : bts s = [] := List.length_eq_zero_iff.1 ((bts_length s).trans h)
theorem ris_is (b : Nat) (s : ByteArray) (q : Bool) (c : UInt8) (w : World) (hb : RR w b s q) (hs : s.size <= 300) : Calls Tryz.prog 59 #[.pointer (some ⟨b, 0, none⟩), .string ⟨#[c]⟩] w fun e w' => ∃ t : ByteArray, e = .returned (.bool (Mo.hasP c.toNat (bts s)).1) /\ bts t = (Mo.hasP c.toNat (bts s)).2 /\ t.size <= s.size /\ RR w' b t q /\ Ch [b] w w' := by
 have c0 := hb.c0
 have f0 := hb.f0 0
 by_cases h0 : s.size = 0
 ·have e := bts_none h0
  have hz : (s.size : Int) < 1 := by omega
  go_enter Tryz.func59, Tryz.ntmps59
  go_wp2
  go_ret
  exact ⟨s, by rw [e]; rfl, by rw [e]; rfl, Nat.le_refl _, hb, Ch.refl _ _⟩
 ·have hp : 0 < s.size := by omega
  have e := bts_head hp
  obtain ⟨x, hx⟩ : ∃ x, s.extract 0 1 = x := ⟨_, rfl⟩
  have hxb : bts x = [(s[0]'hp).toNat] := by rw [<- hx]; exact bts_take1 hp
  have k1 : (1 : Int) <= (s.size : Int) := by omega
  by_cases hc : (s[0]'hp).toNat = c.toNat
  ·have hm : (x.toList == [c]) = true := by rw [word_beq, hxb, hc]; simp
   obtain ⟨t, ht⟩ : ∃ t, s.extract 1 s.size = t := ⟨_, rfl⟩
   have htb : bts t = (bts s).tail := by rw [<- ht, bts_tail]
   have hts : t.size <= s.size := by rw [<- bts_length, htb, List.length_tail, bts_length]; omega
   have HT : Hid (bts t = (bts s).tail) := Lib.hid htb
   have HE : Hid (bts s = (s[0]'hp).toNat :: (bts s).tail) := Lib.hid e
   clear htb e hxb
   go_enter Tryz.func59, Tryz.ntmps59
   go_wp2
   go_ret
   have e2 : Mo.hasP c.toNat (bts s) = (true, (bts s).tail) := by rw [HE.out, hc]; exact Mo.hasP_yes _ _
   exact ⟨t, by rw [e2]; rfl, by rw [e2]; exact HT.out, hts, hb.put t, (Ch.refl _ _).set (by simp) _ _⟩
  ·have hm : (x.toList == [c]) = false := by rw [word_beq, hxb]; simp [hc]
   have HE : Hid (bts s = (s[0]'hp).toNat :: (bts s).tail) := Lib.hid e
   clear e hxb
   go_enter Tryz.func59, Tryz.ntmps59
   go_wp2
   go_ret
   have e2 : Mo.hasP c.toNat (bts s) = (false, bts s) := by rw [HE.out]; exact Mo.hasP_no _ hc
   exact ⟨s, by rw [e2]; rfl, by rw [e2], Nat.le_refl _, hb, Ch.refl _ _⟩
def RdO (w : World) (b : Nat) (o : Option (List Nat)) : Prop := ∃ s q, RR w b s q /\ Left o s q
theorem RdO.lt {w : World} {b : Nat} {o : Option (List Nat)} (h : RdO w b o) : b < w.heap.size := by
 obtain ⟨s, q, h, _⟩ := h
 exact Blk.lt h
theorem RdO.ch {S : List Nat} {w w' : World} {b : Nat} {o : Option (List Nat)} (h : RdO w b o) (hc : Ch S w w') (hb : b ∉ S) : RdO w' b o := by
 obtain ⟨s, q, h, hl⟩ := h
 exact ⟨s, q, hc.blk h hb, hl⟩
theorem ris_o (b : Nat) (o : Option (List Nat)) (c : UInt8) (w : World) (h : RdO w b o) : Calls Tryz.prog 59 #[.pointer (some ⟨b, 0, none⟩), .string ⟨#[c]⟩] w fun e w' => ∃ x : Bool, e = .returned (.bool x) /\ RdO w' b (o.map fun l => (Mo.hasP c.toNat l).2) /\ Ch [b] w w' /\ ∀ l, o = some l -> x = (Mo.hasP c.toNat l).1 := by
 obtain ⟨s, q, hb, hs, hl⟩ := h
 refine (ris_is b s q c w hb hs).mono ?_
 rintro e w' ⟨t, rfl, ht, hts, hb2, hc⟩
 refine ⟨_, rfl, ⟨t, q, hb2, by omega, ?_⟩, hc, ?_⟩
 ·cases o with
  | none => exact hl
  | some l => obtain ⟨h1, h2⟩ := hl; exact ⟨h1, by rw [ht, h2]⟩
 ·rintro l rfl
  rw [hl.2]
theorem want_has (c : Nat) (l : List Nat) : Mo.wantP c l = if (Mo.hasP c l).1 then some (Mo.hasP c l).2 else none := by
 cases l with
 | nil => rfl
 | cons a r =>
  unfold Mo.wantP Mo.hasP
  by_cases h : a = c <;> simp [h]
theorem rwant_o (b : Nat) (o : Option (List Nat)) (c : UInt8) (w : World) (h : RdO w b o) : Calls Tryz.prog 61 #[.pointer (some ⟨b, 0, none⟩), .string ⟨#[c]⟩] w fun e w' => e = .returned (.tuple #[]) /\ RdO w' b (o.bind (Mo.wantP c.toNat)) /\ Ch [b] w w' := by
 have CI := Lib.hid (ris_o b o c w h)
 clear h
 go_enter Tryz.func61, Tryz.ntmps61
 go_wp2_with fail
 refine (CI.out).mono ?_
 clear CI
 rintro e w1 ⟨x, rfl, hr, hc, hx⟩
 have HX := Lib.hid hx
 clear hx
 obtain ⟨s, q, hb, hs, hl⟩ := hr
 have HL := Lib.hid hl
 clear hl
 have c1 := hb.c1
 have f1 := hb.f0 1
 cases x with
 | true =>
  go_wp2
  go_end0
  refine ⟨rfl, ⟨s, q, hb, hs, ?_⟩, hc⟩
  cases o with
  | none => exact HL.out
  | some l =>
   have e := HX.out l rfl
   show match Mo.wantP c.toNat l with | some l => q = false /\ bts s = l | none => q = true
   rw [want_has, <- e]
   exact HL.out
 | false =>
  go_wp2
  go_end0
  refine ⟨rfl, ⟨s, true, hb.mark true, hs, ?_⟩, hc.set (by simp) _ _⟩
  cases o with
  | none => rfl
  | some l =>
   have e := HX.out l rfl
   show match Mo.wantP c.toNat l with | some l => true = false /\ bts s = l | none => true = true
   rw [want_has, <- e]
   rfl
def NumRes (q r : Bool) (v : Nat) (t : ByteArray) : Option (Nat × List Nat) -> Prop
 | some p => r = q /\ v = p.1 /\ bts t = p.2
 | none => r = true
theorem num_none {m k : Nat} {l : List Nat} (hk : k < m) (h : ∀ c r, l.drop k = c :: r -> Dc.dig c = false) : Mo.numP m l = none := by
 unfold Mo.numP
 rw [if_neg]
 rintro ⟨h1, h2⟩
 have hk2 : k < l.length := by omega
 have e := List.drop_eq_getElem_cons hk2
 have h3 := h _ _ e
 have h4 : l[k] ∈ l.take m := by
  rw [List.mem_take_iff_getElem]
  exact ⟨k, by omega, rfl⟩
 have := List.all_eq_true.1 h2 _ h4
 rw [this] at h3; cases h3
theorem rnumber_is (b : Nat) (s : ByteArray) (q : Bool) (m : Nat) (hm : m <= 4) (w : World) (hb : RR w b s q) (hs : s.size <= 300) : Calls Tryz.prog 60 #[.pointer (some ⟨b, 0, none⟩), .int .i64 (m : Int)] w fun e w' => ∃ (v : Nat) (t : ByteArray) (r : Bool), e = .returned (.int .i64 (v : Int)) /\ v < 10000 /\ t.size <= 300 /\ RR w' b t r /\ Ch [b] w w' /\ NumRes q r v t (Mo.numP m (bts s)) := by
 go_enter Tryz.func60, Tryz.ntmps60
 go_wp2
 go_loopw [5, 6] (fun n i wr => ∃ (k v : Nat) (t : ByteArray), k <= m /\ i = .int .i64 (k : Int) /\ n = .int .i64 (v : Int) /\ v < 10 ^ k /\ t.size <= 300 /\ Hid (bts t = (bts s).drop k /\ k <= s.size /\ ((bts s).take k).all Dc.dig = true /\ v = Dc.val ((bts s).take k)) /\ RR wr b t q /\ Ch [b] w wr) (fun _ i _ => m - (intOf i).toNat)
 case atStart => exact ⟨0, 0, s, Nat.zero_le _, rfl, rfl, by decide, hs, Lib.hid ⟨rfl, Nat.zero_le _, rfl, rfl⟩, hb, Ch.refl _ _⟩
 case round =>
  clear hb
  obtain ⟨k, v, t, hk, rfl, rfl, hv, hts, ht, hb, hc⟩ := hrel
  have c0 := hb.c0
  have c1 := hb.c1
  have f0 := hb.f0 0
  have f1 := hb.f0 1
  by_cases hlt : k < m
  ·have hk3 : 10 ^ k <= 1000 := Nat.le_trans (Nat.pow_le_pow_right (by decide) (by omega : k <= 3)) (by decide)
   have hv3 : v < 1000 := by omega
   have hp10 : Hid (10 ^ (k + 1) = 10 ^ k * 10) := Lib.hid (Nat.pow_succ _ _)
   have HV : Hid (v < 10 ^ k) := Lib.hid hv
   clear hv hk3
   by_cases h0 : t.size = 0
   ·have he := isEmpty_yes h0
    have hno := Lib.hid (num_none (l := bts s) hlt (by rw [<- ht.out.1, bts_none h0]; intro c r e; cases e))
    clear h0 ht
    go_wp2
    go_ret
    exact ⟨0, t, true, rfl, by decide, hts, hb.mark true, hc.set (by simp) _ _, by rw [hno.out]; rfl⟩
   ·have hp : 0 < t.size := by omega
    have he := isEmpty_no hp
    have hh := Lib.hid (bts_head hp)
    obtain ⟨c, hcc⟩ : ∃ c, (t[0]'hp).toNat = c := ⟨_, rfl⟩
    have hz : (0 : Int) < (t.size : Int) := by omega
    by_cases hd : 48 <= c /\ c <= 57
    ·obtain ⟨d1, d2⟩ := hd
     obtain ⟨x, hx⟩ : ∃ x, t.extract 1 t.size = x := ⟨_, rfl⟩
     have hxb := Lib.hid (show bts x = (bts t).tail by rw [<- hx, bts_tail])
     have hxs : x.size <= 300 := by rw [<- bts_length, hxb.out, List.length_tail, bts_length]; omega
     obtain ⟨y, hy⟩ : ∃ y : Nat, c = 48 + y := ⟨c - 48, by omega⟩
     have k1 : (1 : Int) <= (t.size : Int) := by omega
     have e1 : (c : Int) - 48 = (y : Int) := by omega
     have g1 : decide ((c : Int) < 48) = false := decide_eq_false (by omega)
     have g2 : decide (57 < (c : Int)) = false := decide_eq_false (by omega)
     have hy9 : y <= 9 := by omega
     have HY := Lib.hid hy
     obtain ⟨u, hu⟩ : ∃ u : Nat, u = v * 10 + y := ⟨_, rfl⟩
     have hui : (v : Int) * 10 + (y : Int) = (u : Int) := by omega
     have hu4 : u < 10000 := by omega
     have HU := Lib.hid hu
     have ht2 : Hid (bts x = (bts s).drop (k + 1) /\ k + 1 <= s.size /\ ((bts s).take (k + 1)).all Dc.dig = true /\ u = Dc.val ((bts s).take (k + 1))) := Lib.hid (by
      obtain ⟨q1, q2, q3, q4⟩ := ht.out
      have hlen : (bts t).length = (bts s).length - k := by rw [q1, List.length_drop]
      rw [bts_length, bts_length] at hlen
      have hks : k < s.size := by omega
      have hks2 : k < (bts s).length := by rw [bts_length]; exact hks
      have e2 : (bts s).drop k = (bts s)[k] :: (bts s).drop (k + 1) := List.drop_eq_getElem_cons hks2
      have e3 : c :: (bts t).tail = (bts s)[k] :: (bts s).drop (k + 1) := by rw [<- e2, <- q1, hh.out, hcc]; rfl
      obtain ⟨e4, e5⟩ := List.cons.inj e3
      have e6 : (bts s).take (k + 1) = (bts s).take k ++ [c] := by rw [List.take_succ_eq_append_getElem hks2, <- e4]
      refine ⟨by rw [hxb.out, e5], by omega, ?_, ?_⟩
      ·rw [e6, List.all_append, q3]; simp [Dc.dig, d1, d2]
      ·rw [e6, Dc.val_snoc, <- q4, hu, hy]; omega)
     have hu2 : Hid (u < 10 ^ (k + 1)) := Lib.hid (by rw [hp10.out]; have := HV.out; omega)
     clear ht hh hxb hu hy
     go_wp2
     go_roundw
     case rel => exact ⟨k + 1, u, x, by omega, by simp, rfl, hu2.out, hxs, ht2, hb.put x, hc.set (by simp) _ _⟩
     case measure => simp [intOf]; omega
    ·have hno := Lib.hid (num_none (l := bts s) hlt (by
      rw [<- ht.out.1, hh.out, hcc]; intro c' r e
      cases e
      cases h : Dc.dig c with
      | false => rfl
      | true => exact absurd (Dc.dig_iff.1 h) hd))
     clear ht hh
     by_cases h1 : c < 48
     ·have g1 : decide ((c : Int) < 48) = true := decide_eq_true (by omega)
      clear hd h1
      go_wp2
      go_ret
      exact ⟨0, t, true, rfl, by decide, hts, hb.mark true, hc.set (by simp) _ _, by rw [hno.out]; rfl⟩
     ·have g1 : decide ((c : Int) < 48) = false := decide_eq_false (by omega)
      have g2 : decide (57 < (c : Int)) = true := decide_eq_true (by omega)
      clear hd h1
      go_wp2
      go_ret
      exact ⟨0, t, true, rfl, by decide, hts, hb.mark true, hc.set (by simp) _ _, by rw [hno.out]; rfl⟩
  ·obtain rfl : k = m := by omega
   have hr : Mo.numP k (bts s) = some (v, bts t) := by
    obtain ⟨q1, q2, q3, q4⟩ := ht.out
    unfold Mo.numP
    rw [if_pos ⟨by rw [bts_length]; exact q2, q3⟩, <- q4, <- q1]
   have hv4 : v < 10000 := Nat.lt_of_lt_of_le hv (Nat.le_trans (Nat.pow_le_pow_right (by decide) hm) (by decide))
   have HR := Lib.hid hr
   clear hr ht hv
   go_wp2
   go_ret
   exact ⟨v, t, q, rfl, hv4, hts, hb, hc, by rw [HR.out]; exact ⟨rfl, rfl, rfl⟩⟩
theorem rnumber_o (b : Nat) (o : Option (List Nat)) (m : Nat) (hm : m <= 4) (w : World) (h : RdO w b o) : Calls Tryz.prog 60 #[.pointer (some ⟨b, 0, none⟩), .int .i64 (m : Int)] w fun e w' => ∃ v : Nat, e = .returned (.int .i64 (v : Int)) /\ v < 10000 /\ RdO w' b ((o.bind (Mo.numP m)).map Prod.snd) /\ Ch [b] w w' /\ ∀ p, o.bind (Mo.numP m) = some p -> v = p.1 := by
 obtain ⟨s, q, hb, hs, hl⟩ := h
 refine (rnumber_is b s q m hm w hb hs).mono ?_
 rintro e w' ⟨v, t, r, rfl, hv, ht, hb2, hc, hn⟩
 refine ⟨v, rfl, hv, ⟨t, r, hb2, ht, ?_⟩, hc, ?_⟩
 ·cases o with
  | none =>
   have hq : q = true := hl
   show r = true
   cases hp : Mo.numP m (bts s) with
   | none => rw [hp] at hn; exact hn
   | some p => rw [hp] at hn; rw [hn.1, hq]
  | some l =>
   obtain ⟨h1, h2⟩ := hl
   rw [h2] at hn
   show match (Mo.numP m l).map Prod.snd with | some l => r = false /\ bts t = l | none => r = true
   cases hp : Mo.numP m l with
   | none => rw [hp] at hn; exact hn
   | some p => rw [hp] at hn; exact ⟨by rw [hn.1, h1], hn.2.2⟩
 ·intro p hp
  cases o with
  | none => cases hp
  | some l =>
   obtain ⟨h1, h2⟩ := hl
   rw [h2] at hn
   have hp : Mo.numP m l = some p := hp
   rw [hp] at hn
   exact hn.2.1
def twoL : Nat -> Nat -> List Nat
 | 0, _ => []
 | m + 1, n => twoL m (n / 10) ++ [48 + n % 10]
theorem twoL_length : ∀ m n, (twoL m n).length = m
 | 0, _ => rfl
 | m + 1, n => by rw [twoL, List.length_append, twoL_length m]; rfl
theorem twoL_pad : ∀ {m n : Nat}, n < 10 ^ m -> 1 <= m -> twoL m n = Dc.pad m n
 | 1, n, h, _ => by
  have h : n < 10 := by simpa using h
  simp [twoL, Dc.pad, Dc.digs_low h]; omega
 | m + 2, n, h, _ => by
  have h2 : n / 10 < 10 ^ (m + 1) := Nat.div_lt_of_lt_mul (by rw [Nat.pow_succ, Nat.mul_comm] at h; exact h)
  rw [twoL, twoL_pad h2 (by omega)]
  by_cases hn : n < 10
  ·have e : n / 10 = 0 := by omega
   rw [e]
   unfold Dc.pad
   rw [Dc.digs_low hn, Dc.digs_zero]
   simp only [List.length_singleton]
   rw [show m + 2 - 1 = m + 1 - 1 + 1 by omega, List.replicate_succ']
   simp; omega
  ·unfold Dc.pad
   rw [Dc.digs_step (n := n) (by omega), List.length_append]
   simp only [List.length_singleton, List.append_assoc]
   rw [show m + 2 - ((Dc.digs (n / 10)).length + 1) = m + 1 - (Dc.digs (n / 10)).length by omega]
theorem twoL_lt (m n : Nat) : ∀ c ∈ twoL m n, c < 256 := by
 induction m generalizing n with
 | zero => intro c hc; cases hc
 | succ m ih =>
  intro c hc
  rw [twoL, List.mem_append] at hc
  rcases hc with hc | hc
  ·exact ih _ c hc
  ·simp at hc; omega
theorem twoL_step (k n : Nat) : twoL (k + 1) n = (48 + n / 10 ^ k % 10) :: twoL k n := by
 induction k generalizing n with
 | zero => simp [twoL]
 | succ k ih =>
  rw [twoL, ih, twoL]
  have e : n / 10 / 10 ^ k = n / 10 ^ (k + 1) := by rw [Nat.div_div_eq_div_mul, Nat.pow_succ, Nat.mul_comm]
  rw [e]; rfl
theorem rtwo_is (n m : Nat) (hm : m <= 4) (hn : n <= 1000000) (w : World) : Calls Tryz.prog 62 #[.int .i64 (n : Int), .int .i64 (m : Int)] w fun e w' => ∃ t : ByteArray, e = .returned (.string t) /\ t = str (twoL m n) /\ Below w.heap.size w w' := by
 go_enter Tryz.func62, Tryz.ntmps62
 go_wp2
 go_loopw [0, 5, 6] (fun u v i wr => ∃ (k x : Nat) (t : ByteArray), k <= m /\ i = .int .i64 (k : Int) /\ u = .int .i64 (x : Int) /\ v = .string t /\ x <= 1000000 /\ t.size <= 4 /\ Hid (x = n / 10 ^ k /\ t = str (twoL k n)) /\ Below w.heap.size w wr) (fun _ _ i _ => m - (intOf i).toNat)
 case atStart => exact ⟨0, n, ⟨#[]⟩, Nat.zero_le _, rfl, rfl, rfl, hn, by decide, Lib.hid ⟨by simp, rfl⟩, Below.refl _ _⟩
 case round =>
  obtain ⟨k, x, t, hk, rfl, rfl, rfl, hx, ht4, hd, hB⟩ := hrel
  by_cases hlt : k < m
  ·obtain ⟨c, hc⟩ : ∃ c : Nat, 48 + x % 10 = c := ⟨_, rfl⟩
   obtain ⟨z, hz⟩ : ∃ z : Nat, x / 10 = z := ⟨_, rfl⟩
   obtain ⟨y, hy⟩ : ∃ y : Nat, x % 10 = y := ⟨_, rfl⟩
   have e1 : (x : Int).tmod 10 = (y : Int) := by rw [Int.tmod_eq_emod_of_nonneg (by omega)]; omega
   have e2 : (x : Int).tdiv 10 = (z : Int) := by rw [Int.tdiv_eq_ediv_of_nonneg (by omega)]; omega
   have ci : (48 : Int) + (y : Int) = (c : Int) := by omega
   have hy9 : y <= 9 := by omega
   have hz2 : z <= 1000000 := by omega
   have w8 : IntKind.u8.wrap (c : Int) = (c : Int) := by rw [IntKind.wrap_u8]; omega
   have es : (convert 83 9 (.slice (some ⟨wr.heap.size, 0, none⟩) 1 1)).run Tryz.prog (wr.alloc (.cells #[.int .u8 (c : Int)] 5)) = .ok (.string (str [c])) (wr.alloc (.cells #[.int .u8 (c : Int)] 5)) := run_str_new wr [(c : Int)] 1
   have hcs : (str [c]).size <= 1 := Nat.le_of_eq (str_size _)
   have hd2 : Hid (z = n / 10 ^ (k + 1) /\ str [c] ++ t = str (twoL (k + 1) n)) := Lib.hid (by
    obtain ⟨q1, q2⟩ := hd.out
    refine ⟨by rw [<- hz, q1, Nat.div_div_eq_div_mul, Nat.pow_succ], ?_⟩
    rw [q2, str_append, twoL_step, <- q1, hc]; rfl)
   have hlen : Hid ((str [c] ++ t).size <= 4) := Lib.hid (by
    rw [hd2.out.2, str_size, twoL_length]; omega)
   clear hd hc hz hy
   go_wp2
   go_roundw
   case rel => exact ⟨k + 1, z, _, by omega, by simp, rfl, rfl, hz2, hlen.out, hd2, hB.alloc hB.size _⟩
   case measure => simp [intOf]; omega
  ·obtain rfl : k = m := by omega
   go_wp2
   go_ret
   exact ⟨t, rfl, hd.out.2, hB⟩

theorem itoa_is (n : Nat) (hn : n <= 1000000) (w : World) (hP : Pow w) : Calls Tryz.prog 104 #[.int .i64 (n : Int)] w fun e w' => ∃ t : ByteArray, e = .returned (.string t) /\ bts t = Dc.digs n /\ Below w.heap.size w w' := by
 refine (Tryz.strconv_Itoa (n : Int) (by omega) (by omega) w hP).mono ?_
 rintro e w' ⟨rfl, k, os, rfl⟩
 refine ⟨_, rfl, ?_, Lib.below_grow _ _ (Nat.le_refl _) _ _⟩
 have e : Lib.itoa (n : Int) = Lib.decDigits n := by unfold Lib.itoa; rw [if_neg (by omega)]; rfl
 rw [e]; exact bts_dec n
theorem ppadded_is (n m : Nat) (hm : m <= 4) (hn : n <= 1000000) (w : World) (hP : Pow w) : Calls Tryz.prog 64 #[.int .i64 (n : Int), .int .i64 (m : Int)] w fun e w' => e = .returned (.string (str (Dc.pad m n))) /\ Below w.heap.size w w' := by
 have CI := Lib.hid (itoa_is n hn w hP)
 clear hP
 have hdl : (Dc.digs n).length <= 7 := (Dc.digs_length (by decide)).2 (by omega)
 go_enter Tryz.func64, Tryz.ntmps64
 go_wp2_with fail
 refine (CI.out).mono ?_
 rintro e w1 ⟨t, rfl, ht, hb1⟩
 obtain ⟨c, hc⟩ : ∃ c : Nat, c = m - (Dc.digs n).length := ⟨_, rfl⟩
 have htl : (t.size : Int) = ((Dc.digs n).length : Int) := by rw [<- bts_length, ht]
 have hmx : max (0 : Int) ((m : Int) - (t.size : Int)) = (c : Int) := by omega
 have hc2 : c <= 1000 := by omega
 have htz : t.size <= 7 := by omega
 have CR := Lib.hid (repeat_zeros c hc2 w1)
 have HC := Lib.hid hc
 have HT := Lib.hid ht
 clear hc ht htl CI
 go_wp2_with fail
 refine (CR.out).mono ?_
 rintro e w2 ⟨⟨r, rfl, hr⟩, hb2⟩
 have hrl : r.size <= 1000 := by rw [<- bts_length, hr, List.length_replicate]; exact hc2
 have HR := Lib.hid hr
 have HV : Hid (r ++ t = str (Dc.pad m n)) := Lib.hid (by
  rw [<- str_bts (r ++ t), str_add, hr, HT.out]
  unfold Dc.pad
  rw [HC.out])
 clear hr CR
 go_wp2
 go_ret
 exact ⟨by show Ending.returned (.string (r ++ t)) = _; rw [HV.out], hb1.trans (hb2.mono hb1.size)⟩
theorem ptrim_is (s : ByteArray) (w : World) : Calls Tryz.prog 100 #[.string s, .string ⟨#[48, 49, 50, 51, 52, 53, 54, 55, 56, 57]⟩] w fun e w' => ∃ t : ByteArray, e = .returned (.string t) /\ bts t = Mo.runR (bts s) /\ Below w.heap.size w w' := by
 refine (Any.strings_TrimLeft_laid Tryz.lays161 (by kernel_rfl) s _ w (by decide) ?_).mono ?_
 ·intro j b hj
  have hm : b ∈ ([48, 49, 50, 51, 52, 53, 54, 55, 56, 57] : List UInt8) := List.mem_of_getElem? hj
  simp only [List.mem_cons, List.not_mem_nil, or_false] at hm
  rcases hm with rfl | rfl | rfl | rfl | rfl | rfl | rfl | rfl | rfl | rfl <;> decide
 ·rintro e w' ⟨rfl, hb⟩
  refine ⟨_, rfl, ?_, hb⟩
  unfold Lib.trimLeftS Mo.runR bts
  show ((s.data.toList.dropWhile _).map UInt8.toNat) = _
  induction s.data.toList with
  | nil => rfl
  | cons a l ih =>
   have e : ([48, 49, 50, 51, 52, 53, 54, 55, 56, 57] : List UInt8).contains a = Dc.dig a.toNat := by
    rw [Bool.eq_iff_iff, List.contains_iff_mem, Dc.dig_iff]
    simp only [List.mem_cons, List.not_mem_nil, or_false]
    constructor
    ·intro h
     rcases h with rfl | rfl | rfl | rfl | rfl | rfl | rfl | rfl | rfl | rfl <;> decide
    ·intro h
     have : a = UInt8.ofNat a.toNat := by simp
     rw [this]
     obtain ⟨h1, h2⟩ := h
     generalize a.toNat = n at *
     have : n = 48 \/ n = 49 \/ n = 50 \/ n = 51 \/ n = 52 \/ n = 53 \/ n = 54 \/ n = 55 \/ n = 56 \/ n = 57 := by omega
     rcases this with rfl | rfl | rfl | rfl | rfl | rfl | rfl | rfl | rfl | rfl <;> decide
   show List.map _ (List.dropWhile (fun x => ([48, 49, 50, 51, 52, 53, 54, 55, 56, 57] : List UInt8).contains x) (a :: l)) = _
   rw [List.dropWhile_cons, List.map_cons, List.dropWhile_cons, e]
   cases Dc.dig a.toNat with
   | true => exact ih
   | false => rfl
end Go.Proofs.YtckodhldimhbfaaGreatDoor
namespace Go.Proofs.YtckodhldimhbfaaGreatDoor
open Go Go.RowKit
namespace Mo
theorem no {α : Type} {x : α} {P : Prop} (h : none = some x) : P := by cases h
abbrev Ob := Option (List Nat)
def hasO (c : Nat) (o : Ob) : Ob := o.map fun l => (hasP c l).2
def wantO (c : Nat) (o : Ob) : Ob := o.bind (wantP c)
def numO (m : Nat) (o : Ob) : Ob := (o.bind (numP m)).map Prod.snd
def isHas (c : Nat) (o : Ob) (x : Bool) : Prop := ∀ l, o = some l -> x = (hasP c l).1
def isNum (m : Nat) (o : Ob) (v : Nat) : Prop := ∀ p, o.bind (numP m) = some p -> v = p.1
theorem hasO_some {c : Nat} {l : List Nat} : hasO c (some l) = some (hasP c l).2 := rfl
theorem wantO_some {c : Nat} {l : List Nat} : wantO c (some l) = wantP c l := rfl
theorem num_cases (m : Nat) (l : List Nat) : (numP m l = none /\ numO m (some l) = none) \/ ∃ v r, numP m l = some (v, r) /\ numO m (some l) = some r /\ ∀ u, isNum m (some l) u -> u = v := by
 unfold numO isNum
 cases h : numP m l with
 | none => left; exact ⟨rfl, by simp [h]⟩
 | some p => right; exact ⟨p.1, p.2, rfl, by simp [h], fun u hu => hu p h⟩
def dateO (o : Ob) : Ob := numO 2 (wantO 45 (numO 2 (wantO 45 (numO 4 (hasO 45 o)))))
theorem date_chain {o : Ob} {x : Bool} {y m d : Nat} (hx : isHas 45 o x) (hy : isNum 4 (hasO 45 o) y) (hm : isNum 2 (wantO 45 (numO 4 (hasO 45 o))) m) (hd : isNum 2 (wantO 45 (numO 2 (wantO 45 (numO 4 (hasO 45 o))))) d) :
  dateO o = (o.bind dateP).map Prod.snd /\ ∀ r, o.bind dateP = some r -> r.1 = (if x then -(y : Int) else (y : Int), (m : Int), (d : Int)) := by
 unfold dateO
 cases o with
 | none => exact ⟨rfl, fun r h => no h⟩
 | some l =>
  have e := hx l rfl
  rw [hasO_some] at *
  show _ = (dateP l).map Prod.snd /\ ∀ r, dateP l = some r -> _
  unfold dateP
  rw [<- e]
  rcases num_cases 4 (hasP 45 l).2 with ⟨h1, h2⟩ | ⟨v, r, h1, h2, h3⟩
  ·rw [h1, h2]; exact ⟨rfl, fun r h => no h⟩
  ·rw [h1, h2]
   rw [h2] at hm hd
   have := h3 y hy
   subst this
   simp only [Option.bind_some]
   rw [wantO_some] at *
   cases hw : wantP 45 r with
   | none => exact ⟨rfl, fun r h => no h⟩
   | some l1 =>
    rw [hw] at hm hd
    simp only [Option.bind_some]
    rcases num_cases 2 l1 with ⟨h1, h2⟩ | ⟨v, r, h1, h2, h3⟩
    ·rw [h1, h2]; exact ⟨rfl, fun r h => no h⟩
    ·rw [h1, h2]
     rw [h2] at hd
     have := h3 m hm
     subst this
     simp only [Option.bind_some]
     rw [wantO_some] at *
     cases hw : wantP 45 r with
     | none => exact ⟨rfl, fun r h => no h⟩
     | some l1 =>
      rw [hw] at hd
      simp only [Option.bind_some]
      rcases num_cases 2 l1 with ⟨h1, h2⟩ | ⟨v, r, h1, h2, h3⟩
      ·rw [h1, h2]; exact ⟨rfl, fun r h => no h⟩
      ·rw [h1, h2]
       have := h3 d hd
       subst this
       exact ⟨rfl, fun r h => by cases h; rfl⟩
theorem two_val : ∀ {m : Nat} {d : List Nat}, d.all Dc.dig = true -> d.length = m -> twoL m (Dc.val d) = d := by
 intro m
 induction m with
 | zero => intro d _ hl; rw [List.length_eq_zero_iff.1 hl]; rfl
 | succ m ih =>
  intro d hd hl
  obtain ⟨e, c, rfl⟩ : ∃ e c, d = e ++ [c] := ⟨d.dropLast, d.getLast (fun h => by rw [h] at hl; cases hl), (List.dropLast_concat_getLast _).symm⟩
  rw [List.all_append, Bool.and_eq_true] at hd
  have hc : 48 <= c /\ c <= 57 := by
   have := hd.2
   simp only [List.all_cons, List.all_nil, Bool.and_true] at this
   exact Dc.dig_iff.1 this
  rw [Dc.val_snoc, twoL]
  have e1 : (Dc.val e * 10 + (c - 48)) / 10 = Dc.val e := by omega
  have e2 : 48 + (Dc.val e * 10 + (c - 48)) % 10 = c := by omega
  rw [e1, e2, ih hd.1 (by rw [List.length_append] at hl; simp at hl; exact hl)]
theorem numP_two {m : Nat} {l : List Nat} {p : Nat × List Nat} (h : numP m l = some p) : twoL m p.1 = l.take m /\ p.2 = l.drop m /\ (l.take m).length = m /\ (l.take m).all Dc.dig = true := by
 unfold numP at h
 split at h
 ·rename_i hc
  cases h
  have hl : (l.take m).length = m := by rw [List.length_take]; omega
  refine ⟨?_, rfl, hl, hc.2⟩
  have hv := Dc.val_lt hc.2
  rw [hl] at hv
  show twoL m (Dc.val (l.take m)) = _
  exact two_val hc.2 hl
 ·cases h
def runO (o : Ob) : Ob := o.map runR
def secS (x : Bool) (s v : Nat) (o : Ob) : List Nat := twoL 2 s ++ (if x then 46 :: (twoL 1 v ++ (match o with | some l => runD l | none => [])) else [])
def secO (x : Bool) (o : Ob) : Ob := if x then runO (numO 1 (hasO 46 o)) else hasO 46 o
theorem run_cons {c : Nat} {l : List Nat} (h : Dc.dig c = true) : runD (c :: l) = c :: runD l /\ runR (c :: l) = runR l := by
 unfold runD runR; simp [h]
theorem sec_chain {o : Ob} {x : Bool} {s v : Nat} (hs : isNum 2 o s) (hx : isHas 46 (numO 2 o) x) (hv : x = true -> isNum 1 (hasO 46 (numO 2 o)) v) :
  secO x (numO 2 o) = (o.bind secP).map Prod.snd /\ ∀ r, o.bind secP = some r -> r.1 = secS x s v (numO 1 (hasO 46 (numO 2 o))) := by
 cases o with
 | none => exact ⟨by cases x <;> rfl, fun r h => no h⟩
 | some l =>
  show _ = (secP l).map Prod.snd /\ ∀ r, secP l = some r -> _
  unfold secP
  rcases num_cases 2 l with ⟨h1, h2⟩ | ⟨n, r, h1, h2, h3⟩
  ·rw [h1, h2]; exact ⟨by cases x <;> rfl, fun r h => no h⟩
  ·have := h3 s hs
   subst this
   obtain ⟨e1, e2, e3, e4⟩ := numP_two h1
   simp only at e1 e2
   rw [h1, h2]
   rw [h2] at hx hv
   simp only [Option.bind_some]
   have ex := hx r rfl
   rw [<- ex]
   cases x with
   | false =>
    have eh : (hasP 46 r).2 = r := by
     cases r with
     | nil => rfl
     | cons a r =>
      by_cases ha : a = 46
      ·rw [ha, hasP_yes] at ex; cases ex
      ·rw [hasP_no r ha]
    simp only [Bool.false_eq_true, if_false]
    refine ⟨?_, fun q h => ?_⟩
    ·unfold secO
     rw [if_neg (by decide), hasO_some, eh]; rfl
    ·cases h
     unfold secS
     rw [if_neg (by decide), List.append_nil, e1]
   | true =>
    have hv := hv rfl
    simp only [if_true]
    unfold secO secS
    rw [if_pos rfl, if_pos rfl, hasO_some] at *
    rcases num_cases 1 (hasP 46 r).2 with ⟨h4, h5⟩ | ⟨n, q, h4, h5, h6⟩
    ·rw [h5]
     have : runD (hasP 46 r).2 = [] := by
      cases hq : (hasP 46 r).2 with
      | nil => rfl
      | cons c t =>
       cases hc : Dc.dig c with
       | true =>
        exfalso
        rw [hq] at h4
        unfold numP at h4
        rw [if_pos ⟨by simp, by simp [hc]⟩] at h4
        cases h4
       | false => unfold runD; simp [hc]
     rw [if_pos this]
     exact ⟨rfl, fun r h => no h⟩
    ·have := h6 v hv
     subst this
     obtain ⟨f1, f2, f3, f4⟩ := numP_two h4
     simp only at f1 f2
     rw [h5]
     obtain ⟨c, t, hq⟩ : ∃ c t, (hasP 46 r).2 = c :: t := by
      cases hq : (hasP 46 r).2 with
      | nil => rw [hq] at f3; cases f3
      | cons c t => exact ⟨c, t, rfl⟩
     rw [hq] at f1 f2 f3 f4 ⊢
     have hc : Dc.dig c = true := by simpa using f4
     have f2 : q = t := f2
     have f1 : twoL 1 v = [c] := f1
     obtain ⟨g1, g2⟩ := run_cons (l := t) hc
     rw [g1, g2, if_neg (by simp), f2, f1, e1]
     refine ⟨rfl, fun q h => ?_⟩
     cases h
     rfl
def hmO (o : Ob) : Ob := wantO 58 (numO 2 (wantO 58 (numO 2 o)))
theorem time_chain {o : Ob} {h i : Nat} {x : Bool} {s v : Nat} (hh : isNum 2 o h) (hi : isNum 2 (wantO 58 (numO 2 o)) i) (hs : isNum 2 (hmO o) s) (hx : isHas 46 (numO 2 (hmO o)) x) (hv : x = true -> isNum 1 (hasO 46 (numO 2 (hmO o))) v) :
  secO x (numO 2 (hmO o)) = (o.bind timeP).map Prod.snd /\ ∀ r, o.bind timeP = some r -> r.1 = ((h : Int), (i : Int), secS x s v (numO 1 (hasO 46 (numO 2 (hmO o))))) := by
 obtain ⟨k1, k2⟩ := sec_chain hs hx hv
 rw [k1]
 generalize secS x s v (numO 1 (hasO 46 (numO 2 (hmO o)))) = z at k2
 clear k1 hs hx hv
 unfold hmO at k2 ⊢
 cases o with
 | none => exact ⟨rfl, fun r h => no h⟩
 | some l =>
  show _ = (timeP l).map Prod.snd /\ ∀ r, timeP l = some r -> _
  unfold timeP
  rcases num_cases 2 l with ⟨h1, h2⟩ | ⟨n, r, h1, h2, h3⟩
  ·rw [h1, h2]; exact ⟨rfl, fun r h => no h⟩
  ·have := h3 h hh
   subst this
   rw [h1, h2]
   rw [h2] at hi k2
   simp only [Option.bind_some]
   rw [wantO_some] at *
   cases hw : wantP 58 r with
   | none => exact ⟨rfl, fun r h => no h⟩
   | some l1 =>
    rw [hw] at hi k2
    simp only [Option.bind_some]
    rcases num_cases 2 l1 with ⟨h1, h2⟩ | ⟨n, r, h1, h2, h3⟩
    ·rw [h1, h2]; exact ⟨rfl, fun r h => no h⟩
    ·have := h3 i hi
     subst this
     rw [h1, h2]
     rw [h2] at k2
     simp only [Option.bind_some]
     rw [wantO_some] at *
     cases hw : wantP 58 r with
     | none => exact ⟨rfl, fun r h => no h⟩
     | some l1 =>
      rw [hw] at k2
      simp only [Option.bind_some] at k2 ⊢
      cases hp : secP l1 with
      | none => exact ⟨rfl, fun r h => no h⟩
      | some p =>
       refine ⟨rfl, fun r h => ?_⟩
       cases h
       rw [k2 p hp]
def tailO (o : Ob) : Ob := numO 2 (wantO 58 (numO 2 o))
theorem zone_Z {o : Ob} (hx : isHas 90 o true) : (∀ z, o.bind zoneP = some z -> z = (true, 0)) /\ ((o.bind zoneP).isSome = true ↔ hasO 90 o = some []) := by
 cases o with
 | none => exact ⟨fun z h => no h, by simp [hasO]⟩
 | some l =>
  have e := hx l rfl
  have hl : l ≠ [] := fun h => by rw [h] at e; cases e
  rw [hasO_some]
  show (∀ z, zoneP l = some z -> _) /\ ((zoneP l).isSome = true ↔ _)
  unfold zoneP
  rw [if_neg hl, <- e, if_pos rfl]
  by_cases h : (hasP 90 l).2 = []
  ·rw [if_pos h]; exact ⟨fun z h => by cases h; rfl, by simp [h]⟩
  ·rw [if_neg h]; exact ⟨fun z h => no h, by simp [h]⟩
theorem has_no {c : Nat} {l : List Nat} (h : (hasP c l).1 = false) : (hasP c l).2 = l := by
 cases l with
 | nil => rfl
 | cons a r =>
  by_cases ha : a = c
  ·rw [ha, hasP_yes] at h; cases h
  ·rw [hasP_no r ha]
theorem zone_none {o : Ob} (hx : isHas 90 o false) (hn : ∀ l, hasO 90 o = some l -> l = []) : (∀ z, o.bind zoneP = some z -> z = (false, 0)) /\ ((o.bind zoneP).isSome = true ↔ hasO 90 o = some []) := by
 cases o with
 | none => exact ⟨fun z h => no h, by simp [hasO]⟩
 | some l =>
  have e := hx l rfl
  rw [hasO_some] at *
  have hl := hn _ rfl
  have h2 := has_no e.symm
  rw [hl] at h2
  subst h2
  exact ⟨fun z h => by cases h; rfl, by simp [hl]; rfl⟩
theorem zone_sign {o : Ob} {y : Bool} {h m : Nat} (hx : isHas 90 o false) (hn : ∀ l, hasO 90 o = some l -> l ≠ []) (hy : isHas 45 (hasO 90 o) y) (hh : isNum 2 (if y then hasO 45 (hasO 90 o) else wantO 43 (hasO 45 (hasO 90 o))) h) (hm : isNum 2 (wantO 58 (numO 2 (if y then hasO 45 (hasO 90 o) else wantO 43 (hasO 45 (hasO 90 o))))) m) :
  (∀ z, o.bind zoneP = some z -> z = (true, (if y then -1 else 1) * (60 * (h : Int) + (m : Int)))) /\ ((o.bind zoneP).isSome = true ↔ (m <= 59 /\ tailO (if y then hasO 45 (hasO 90 o) else wantO 43 (hasO 45 (hasO 90 o))) = some [])) := by
 cases o with
 | none => exact ⟨fun z h => no h, by cases y <;> simp [hasO, wantO, tailO, numO]⟩
 | some l =>
  have e := hx l rfl
  have h2 := has_no e.symm
  rw [hasO_some, h2] at hn hy hh hm ⊢
  have hl := hn _ rfl
  have ey := hy l rfl
  show (∀ z, zoneP l = some z -> _) /\ ((zoneP l).isSome = true ↔ _)
  unfold zoneP
  rw [if_neg hl, <- e]
  simp only [Bool.false_eq_true, if_false]
  have hs : (signP l).map Prod.snd = (if y then hasO 45 (some l) else wantO 43 (hasO 45 (some l))) /\ ∀ s, signP l = some s -> s.1 = if y then -1 else 1 := by
   unfold signP
   rw [<- ey]
   cases y with
   | true => exact ⟨rfl, fun s h => by cases h; rfl⟩
   | false =>
    have h3 := has_no ey.symm
    rw [hasO_some, h3]
    simp only [Bool.false_eq_true, if_false, wantO_some]
    cases wantP 43 l with
    | none => exact ⟨rfl, fun s h => no h⟩
    | some r => exact ⟨rfl, fun s h => by cases h; rfl⟩
  obtain ⟨s1, s2⟩ := hs
  rw [<- s1] at hh hm ⊢
  cases hsg : signP l with
  | none =>
   refine ⟨fun z h => no h, ?_⟩
   simp [tailO, numO, wantO]
  | some s =>
   rw [hsg] at hh hm
   have es := s2 s hsg
   simp only [Option.map_some, Option.bind_some] at hh hm ⊢
   unfold tailO
   rcases num_cases 2 s.2 with ⟨h1, h2⟩ | ⟨v, r, h1, h2, h3⟩
   ·rw [h1, h2]; exact ⟨fun z h => no h, by simp [wantO, numO]⟩
   ·have := h3 h hh
    subst this
    rw [h1, h2]
    rw [h2] at hm
    simp only [Option.bind_some]
    rw [wantO_some] at *
    cases hw : wantP 58 r with
    | none => exact ⟨fun z h => no h, by simp [numO]⟩
    | some l1 =>
     rw [hw] at hm
     simp only [Option.bind_some]
     rcases num_cases 2 l1 with ⟨h1, h2⟩ | ⟨v, r, h1, h2, h3⟩
     ·rw [h1, h2]; exact ⟨fun z h => no h, by simp⟩
     ·have := h3 m hm
      subst this
      rw [h1, h2]
      simp only [Option.bind_some]
      by_cases hc : 59 < m \/ r ≠ []
      ·rw [if_pos hc]
       refine ⟨fun z h => no h, ?_⟩
       simp only [Option.isSome_none, Bool.false_eq_true, Option.some.injEq, false_iff, not_and]
       intro h1 h2
       rcases hc with hc | hc
       ·omega
       ·exact hc h2
      ·rw [if_neg hc]
       simp only [not_or, Classical.not_not] at hc
       refine ⟨fun z h => by cases h; rw [es], ?_⟩
       simp only [Option.isSome_some, Option.some.injEq, true_iff]
       exact ⟨by omega, hc.2⟩
end Mo
end Go.Proofs.YtckodhldimhbfaaGreatDoor
