/-
  Part 10 of the proof: what functions return, and plain facts (Pof Psum). Conditions: each theorem names its own.
-/
import Derived.Test.YthoojcdjjecogaaGreatDoorG06
import Derived.Test.YthoojcdjjecogaaGreatDoorG07
import Derived.Test.YthoojcdjjecogaaGreatDoorG08
import Derived.Test.YthoojcdjjecogaaGreatDoorG09
set_option maxRecDepth 1000000
set_option maxHeartbeats 16000000
namespace Go.Proofs.YthoojcdjjecogaaGreatDoor
open Go Go.RowKit

theorem suffix48 (s : ByteArray) : Lib.hasSuffix s.data.toList [48] = decide ((bts s).getLast? = some 48) := by
 rw [Bool.eq_iff_iff, decide_eq_true_iff]
 unfold Lib.hasSuffix bts
 rw [List.isSuffixOf_iff_suffix, List.getLast?_map]
 constructor
 ·rintro ⟨m, hm⟩
  rw [<- hm, List.getLast?_append]; rfl
 ·intro h
  cases hl : s.data.toList.getLast? with
  | none => rw [hl] at h; cases h
  | some a =>
   rw [hl] at h
   have ha : a = 48 := UInt8.toNat_inj.1 (Option.some.inj h)
   obtain ⟨ys, hys⟩ := List.getLast?_eq_some_iff.1 hl
   exact ⟨ys, by rw [hys, ha]⟩
theorem suff_any (s : ByteArray) (hs : s.size <= 1000000) (r : Bool) (hr : decide ((bts s).getLast? = some 48) = r) (w : World) : Calls Tryz.prog 71 #[.string s, .string ⟨#[48]⟩] w fun e w' => e = .returned (.bool r) /\ w = w' :=
 (Tryz.strings_HasSuffix s ⟨#[48]⟩ w (by omega)).mono fun _ _ ⟨he, hw⟩ => ⟨by rw [he, <- hr, <- suffix48], hw.symm⟩
def dz (x : Nat) : List Nat := if x = 0 then [] else Dc.digs x
theorem drop48 : ∀ l : List UInt8, (l.dropWhile (· == 48)).map UInt8.toNat = (l.map UInt8.toNat).dropWhile (· == 48)
 | [] => rfl
 | c :: r => by
  rw [List.map_cons, List.dropWhile_cons, List.dropWhile_cons]
  by_cases h : c = 48
  ·subst h; simpa using drop48 r
  ·have h2 : (c == 48) = false := beq_eq_false_iff_ne.2 h
   have h3 : (c.toNat == 48) = false := beq_eq_false_iff_ne.2 (fun e => h (UInt8.toNat_inj.1 e))
   rw [h2, h3]; rfl
theorem drop_dz : ∀ l : List Nat, l.all Dc.dig = true -> l.dropWhile (· == 48) = dz (Dc.val l)
 | [], _ => rfl
 | c :: r, h => by
  rw [List.dropWhile_cons]
  rw [List.all_cons, Bool.and_eq_true] at h
  by_cases h48 : c = 48
  ·subst h48
   rw [Dc.val_cons, Nat.sub_self, Nat.zero_mul, Nat.zero_add]
   simpa using drop_dz r h.2
  ·rw [if_neg (by simpa using h48)]
   have hc := Dc.dig_iff.1 h.1
   have hv : Dc.val (c :: r) ≠ 0 := by
    rw [Dc.val_cons]
    have := Nat.mul_pos (show 0 < c - 48 by omega) (Dc.pow10_pos r.length)
    omega
   rw [dz, if_neg hv]
   exact (Dc.digs_unique (by rw [List.all_cons, h.1, h.2]; rfl) (by simp) (.inl (by simpa using h48))).symm
theorem trim_any (s : ByteArray) (hd : (bts s).all Dc.dig = true) (v : Nat) (hv : Dc.val (bts s) = v) (w : World) : Calls Tryz.prog 191 #[.string s, .string ⟨#[48]⟩] w fun e w' => (∃ t : ByteArray, e = .returned (.string t) /\ bts t = dz v) /\ w = w' := by
 refine (Tryz.strings_TrimLeft_one s 48 (by decide) w).mono ?_
 rintro e w' ⟨rfl, rfl⟩
 refine ⟨⟨_, rfl, ?_⟩, rfl⟩
 rw [<- hv, <- drop_dz _ hd]
 show ((s.data.toList.dropWhile (· == 48)).toArray.toList).map UInt8.toNat = _
 exact drop48 _
theorem dz_length (v : Nat) {l : List Nat} (hd : l.all Dc.dig = true) (hv : Dc.val l = v) : (dz v).length <= l.length := by
 rw [<- hv, <- drop_dz _ hd]
 exact (List.dropWhile_sublist _).length_le

theorem pof_any (neg : Bool) (s : ByteArray) (S : Nat) (hs : s.size <= 1000) (hS : S <= 1000) (hd : (bts s).all Dc.dig = true) (w : World) : Calls Tryz.prog 171 #[.bool neg, .string s, .int .i64 (S : Int)] w fun e w' => e = madeEnd (Dc.can neg (Dc.val (bts s)) S) /\ Below w.heap.size w w' := by
 obtain ⟨v, hv⟩ : ∃ v, Dc.val (bts s) = v := ⟨_, rfl⟩
 have hbl : Hid ((dz v).length <= 1000) := Lib.hid (by have := dz_length v hd hv; rw [bts_length] at this; omega)
 have C : Hid _ := Lib.hid (trim_any s hd v hv)
 rw [hv]
 clear hv hd
 go_enter Tryz.func171, Tryz.ntmps171
 go_wp2_with (go_at_call 191; refine (C.out _).mono ?_; rintro e w4 ⟨⟨t0, rfl, ht0⟩, rfl⟩; have HT0 : Hid _ := Lib.hid ht0; clear ht0)
 go_loop [1, 2] (fun a b => ∃ (x T : Nat) (t : ByteArray), a = .string t /\ b = .int .i64 (T : Int) /\ T <= 1000 /\ t.size <= 1000 /\ Hid (bts t = dz x) /\ Hid (Dc.strip x T = Dc.strip v S) /\ Hid (x = 0 ↔ v = 0)) (fun _ b => (intOf b).toNat)
 case atStart => exact ⟨v, S, t0, rfl, rfl, hS, by rw [<- bts_length, HT0.out]; exact hbl.out, Lib.hid HT0.out, Lib.hid rfl, Lib.hid Iff.rfl⟩
 case round =>
  obtain ⟨x, T, t, rfl, rfl, hT, ht, hbt, hst, hx0⟩ := hrel
  by_cases hT0 : T = 0
  ·have dT : decide (0 < T) = false := decide_eq_false (by omega)
   have hdone : Hid (T = 0 \/ (x ≠ 0 -> x % 10 ≠ 0)) := Lib.hid (.inl hT0)
   clear hT0
   by_cases hxz : x = 0
   ·have q : t.toList.isEmpty = true := isEmpty_yes (by rw [<- bts_length, hbt.out, dz, if_pos hxz]; rfl)
    have hz : Hid (v = 0) := Lib.hid (hx0.out.1 hxz)
    clear hxz hbt hst hx0
    go_wp2
    all_goals refine bodyPost_ret (v := .tuple #[.agg #[.bool false, .string ⟨#[48]⟩, .int .i64 0], .int .i64 0]) (by simp [results, Tryz.results171, go_sem]) rfl ⟨made_zero hz.out, (by repeat (first | exact Below.refl _ _ | refine Below.alloc ?_ (by simp) _ | refine Below.setCell ?_ (by simp) _))⟩
   ·have hb : bts t = Dc.digs x := by rw [hbt.out, dz, if_neg hxz]
    have q : t.toList.isEmpty = false := isEmpty_no (by rw [<- bts_length, hb]; exact Dc.digs_pos x)
    have hnz : Hid (v ≠ 0) := Lib.hid (fun h => hxz (hx0.out.2 h))
    have hfs : Hid (Dc.strip v S = (x, T)) := Lib.hid (by rw [<- hst.out]; exact Dc.strip_done (hdone.out.imp id (fun h => h hxz)))
    have hsz : Hid (t.size = (Dc.digs x).length) := Lib.hid (by rw [<- bts_length, hb])
    by_cases r1 : 60 < t.size
    ·have d1 : decide (60 < (t.size : Int)) = true := decide_eq_true (by omega)
     have hr : Hid (60 < (Dc.digs x).length \/ 60 < T) := Lib.hid (.inl (by have := hsz.out; omega))
     clear hxz hbt hb hst hx0 r1
     go_wp2
     all_goals refine bodyPost_ret (v := .tuple #[.agg #[.bool false, .string ⟨#[]⟩, .int .i64 0], .int .i64 7]) (by simp [results, Tryz.results171, go_sem]) rfl ⟨made_range hnz.out hfs.out hr.out, (by repeat (first | exact Below.refl _ _ | refine Below.alloc ?_ (by simp) _ | refine Below.setCell ?_ (by simp) _))⟩
    ·have d1 : decide (60 < (t.size : Int)) = false := decide_eq_false (by omega)
     by_cases r2 : 60 < T
     ·have d2 : decide (60 < (T : Int)) = true := decide_eq_true (by omega)
      have hr : Hid (60 < (Dc.digs x).length \/ 60 < T) := Lib.hid (.inr r2)
      clear hxz hbt hb hst hx0 r1 r2
      go_wp2
      all_goals refine bodyPost_ret (v := .tuple #[.agg #[.bool false, .string ⟨#[]⟩, .int .i64 0], .int .i64 7]) (by simp [results, Tryz.results171, go_sem]) rfl ⟨made_range hnz.out hfs.out hr.out, (by repeat (first | exact Below.refl _ _ | refine Below.alloc ?_ (by simp) _ | refine Below.setCell ?_ (by simp) _))⟩
     ·have d2 : decide (60 < (T : Int)) = false := decide_eq_false (by omega)
      have hr : Hid (¬ (60 < (Dc.digs x).length \/ 60 < T)) := Lib.hid (by have := hsz.out; omega)
      have htx : Hid (t = str (Dc.digs x)) := Lib.hid (by rw [<- hb, str_bts])
      clear hxz hbt hb hst hx0 r1 r2
      go_wp2
      all_goals refine bodyPost_ret (v := .tuple #[.agg #[.bool neg, .string t, .int .i64 (T : Int)], .int .i64 0]) (by simp [results, Tryz.results171, go_sem]) rfl ⟨made_good hnz.out hfs.out hr.out htx.out, (by repeat (first | exact Below.refl _ _ | refine Below.alloc ?_ (by simp) _ | refine Below.setCell ?_ (by simp) _))⟩
  ·have dT : decide (0 < T) = true := decide_eq_true (by omega)
   by_cases hsf : x ≠ 0 /\ x % 10 = 0
   ·have hb : bts t = Dc.digs (x / 10) ++ [48] := by rw [hbt.out, dz, if_neg hsf.1, Dc.digs_step (by omega), hsf.2]
    have CS : Hid _ := Lib.hid (suff_any t (by omega) true (by rw [hb]; simp))
    obtain ⟨L, hL⟩ : ∃ L, t.size = L + 1 := ⟨t.size - 1, by have := bts_length t; rw [hb, List.length_append] at this; simp at this; omega⟩
    have hL2 : L <= 1000 := by omega
    obtain ⟨t2, ht2⟩ : ∃ t2, t.extract 0 L = t2 := ⟨_, rfl⟩
    have hb2 : Hid (bts t2 = dz (x / 10)) := Lib.hid (by
     have h4 := bts_length t
     rw [hb, List.length_append, hL] at h4
     rw [<- ht2, bts_extract, hb, List.drop_zero, List.take_left' (by simpa using h4), dz, if_neg (by omega)])
    obtain ⟨U, rfl⟩ : ∃ U, T = U + 1 := ⟨T - 1, by omega⟩
    have hs2 : Hid (Dc.strip (x / 10) U = Dc.strip v S) := Lib.hid (by rw [<- hst.out, Dc.strip, if_pos hsf.2])
    have hx2 : Hid (x / 10 = 0 ↔ v = 0) := Lib.hid (by rw [<- hx0.out]; omega)
    have ht2s : t2.size <= 1000 := by rw [<- ht2]; simp; omega
    clear hb hbt hst hx0 hsf hT0
    go_wp2_with (go_at_call 71; refine (CS.out _).mono ?_; rintro e w5 ⟨rfl, rfl⟩)
    go_round
    case rel => exact ⟨x / 10, U, t2, rfl, by go_num, by omega, ht2s, hb2, hs2, hx2⟩
    case measure => simp [intOf]
   ·have CS : Hid _ := Lib.hid (suff_any t (by omega) false (by
     rw [hbt.out, dz]
     by_cases h0 : x = 0
     ·rw [if_pos h0]; rfl
     ·rw [if_neg h0, Dc.digs_last]
      exact decide_eq_false (fun h => by have := Option.some.inj h; omega)))
    have hdone : Hid (T = 0 \/ (x ≠ 0 -> x % 10 ≠ 0)) := Lib.hid (.inr (fun h h2 => hsf ⟨h, h2⟩))
    clear hsf hT0
    by_cases hxz : x = 0
    ·have q : t.toList.isEmpty = true := isEmpty_yes (by rw [<- bts_length, hbt.out, dz, if_pos hxz]; rfl)
     have hz : Hid (v = 0) := Lib.hid (hx0.out.1 hxz)
     clear hxz hbt hst hx0
     go_wp2_with (go_at_call 71; refine (CS.out _).mono ?_; rintro e w5 ⟨rfl, rfl⟩)
     all_goals refine bodyPost_ret (v := .tuple #[.agg #[.bool false, .string ⟨#[48]⟩, .int .i64 0], .int .i64 0]) (by simp [results, Tryz.results171, go_sem]) rfl ⟨made_zero hz.out, (by repeat (first | exact Below.refl _ _ | refine Below.alloc ?_ (by simp) _ | refine Below.setCell ?_ (by simp) _))⟩
    ·have hb : bts t = Dc.digs x := by rw [hbt.out, dz, if_neg hxz]
     have q : t.toList.isEmpty = false := isEmpty_no (by rw [<- bts_length, hb]; exact Dc.digs_pos x)
     have hnz : Hid (v ≠ 0) := Lib.hid (fun h => hxz (hx0.out.2 h))
     have hfs : Hid (Dc.strip v S = (x, T)) := Lib.hid (by rw [<- hst.out]; exact Dc.strip_done (hdone.out.imp id (fun h => h hxz)))
     have hsz : Hid (t.size = (Dc.digs x).length) := Lib.hid (by rw [<- bts_length, hb])
     by_cases r1 : 60 < t.size
     ·have d1 : decide (60 < (t.size : Int)) = true := decide_eq_true (by omega)
      have hr : Hid (60 < (Dc.digs x).length \/ 60 < T) := Lib.hid (.inl (by have := hsz.out; omega))
      clear hxz hbt hb hst hx0 r1
      go_wp2_with (go_at_call 71; refine (CS.out _).mono ?_; rintro e w5 ⟨rfl, rfl⟩)
      all_goals refine bodyPost_ret (v := .tuple #[.agg #[.bool false, .string ⟨#[]⟩, .int .i64 0], .int .i64 7]) (by simp [results, Tryz.results171, go_sem]) rfl ⟨made_range hnz.out hfs.out hr.out, (by repeat (first | exact Below.refl _ _ | refine Below.alloc ?_ (by simp) _ | refine Below.setCell ?_ (by simp) _))⟩
     ·have d1 : decide (60 < (t.size : Int)) = false := decide_eq_false (by omega)
      by_cases r2 : 60 < T
      ·have d2 : decide (60 < (T : Int)) = true := decide_eq_true (by omega)
       have hr : Hid (60 < (Dc.digs x).length \/ 60 < T) := Lib.hid (.inr r2)
       clear hxz hbt hb hst hx0 r1 r2
       go_wp2_with (go_at_call 71; refine (CS.out _).mono ?_; rintro e w5 ⟨rfl, rfl⟩)
       all_goals refine bodyPost_ret (v := .tuple #[.agg #[.bool false, .string ⟨#[]⟩, .int .i64 0], .int .i64 7]) (by simp [results, Tryz.results171, go_sem]) rfl ⟨made_range hnz.out hfs.out hr.out, (by repeat (first | exact Below.refl _ _ | refine Below.alloc ?_ (by simp) _ | refine Below.setCell ?_ (by simp) _))⟩
      ·have d2 : decide (60 < (T : Int)) = false := decide_eq_false (by omega)
       have hr : Hid (¬ (60 < (Dc.digs x).length \/ 60 < T)) := Lib.hid (by have := hsz.out; omega)
       have htx : Hid (t = str (Dc.digs x)) := Lib.hid (by rw [<- hb, str_bts])
       clear hxz hbt hb hst hx0 r1 r2
       go_wp2_with (go_at_call 71; refine (CS.out _).mono ?_; rintro e w5 ⟨rfl, rfl⟩)
       all_goals refine bodyPost_ret (v := .tuple #[.agg #[.bool neg, .string t, .int .i64 (T : Int)], .int .i64 0]) (by simp [results, Tryz.results171, go_sem]) rfl ⟨made_good hnz.out hfs.out hr.out htx.out, (by repeat (first | exact Below.refl _ _ | refine Below.alloc ?_ (by simp) _ | refine Below.setCell ?_ (by simp) _))⟩
open Go.Ex
set_option maxRecDepth 1000000

theorem pof_is (neg : Bool) (s : ByteArray) (S : Nat) (hs : s.size <= 1000) (hS : S <= 1000) (hd : (bts s).all Dc.dig = true) (r : Res) (hr : resOf (Dc.can neg (Dc.val (bts s)) S) = r) (w : World) : Calls Tryz.prog 171 #[.bool neg, .string s, .int .i64 (S : Int)] w fun e w' => e = .returned (.tuple #[.agg #[.bool r.n, .string r.s, .int .i64 r.S], .int .i64 r.k]) /\ Below w.heap.size w w' :=
 (pof_any neg s S hs hS hd w).mono fun _ _ ⟨he, hb⟩ => ⟨he.trans (made_is hr), hb⟩
theorem lt_top {x k : Nat} (h : x < 10 ^ k) (hk : k <= 216) : x < top := by
 rw [top_pow]; exact Nat.lt_of_lt_of_le h (Nat.pow_le_pow_right (by decide) hk)
def numGo : Nat -> Nat -> List Nat
 | 0, _ => []
 | k + 1, x => x % 1000000000 :: numGo k (x / 1000000000)
theorem numGo_len : ∀ k x, (numGo k x).length = k
 | 0, _ => rfl
 | k + 1, x => by rw [numGo, List.length_cons, numGo_len]
theorem numGo_low : ∀ k x, ∀ d ∈ numGo k x, d < 1000000000
 | 0, _, d, h => by cases h
 | k + 1, x, d, h => by
  rcases List.mem_cons.1 h with rfl | h
  ·exact Nat.mod_lt _ (by decide)
  ·exact numGo_low k _ d h
theorem numGo_val : ∀ k x, x < 1000000000 ^ k -> Dc.valB (numGo k x) = x
 | 0, x, h => by rw [Nat.pow_zero] at h; show 0 = x; omega
 | k + 1, x, h => by
  rw [numGo, Dc.valB, numGo_val k _ (Nat.div_lt_of_lt_mul (by rw [Nat.pow_succ] at h; rw [Nat.mul_comm]; exact h))]
  omega
theorem numGo_of : ∀ (l : List Nat), (∀ d ∈ l, d < 1000000000) -> numGo l.length (Dc.valB l) = l
 | [], _ => rfl
 | d :: l, h => by
  have hd := h d (List.mem_cons_self ..)
  have e1 : (d + 1000000000 * Dc.valB l) % 1000000000 = d := by omega
  have e2 : (d + 1000000000 * Dc.valB l) / 1000000000 = Dc.valB l := by omega
  rw [Dc.valB, List.length_cons, numGo, e1, e2, numGo_of l fun d hd => h d (List.mem_cons_of_mem _ hd)]
def numL (x : Nat) : List Nat := numGo 24 x
theorem numL_num (x : Nat) : Num (numL x) := ⟨numGo_len 24 x, numGo_low 24 x⟩
theorem numL_val {x : Nat} (h : x < top) : Dc.valB (numL x) = x := numGo_val 24 x h
theorem numL_of {l : List Nat} (h : Num l) : l = numL (Dc.valB l) := by
 have q := numGo_of l h.low
 rw [h.len] at q
 exact q.symm
def NumIs (l : List Nat) (x : Nat) : Prop := Num l /\ Dc.valB l = x
theorem num_call {f : FuncId} {a : Array Value} {w : World} {x : Nat} {l : List Nat} (hl : NumIs l x) (h : Calls Tryz.prog f a w fun e w' => (∃ O : List Nat, e = .returned (.agg (numV O)) /\ Num O /\ Dc.valB O = x) /\ Below w.heap.size w w') : Calls Tryz.prog f a w fun e w' => e = .returned (.agg (numV l)) /\ Below w.heap.size w w' := by
 refine h.mono ?_
 rintro e w' ⟨⟨O, rfl, hn, hv⟩, hb⟩
 refine ⟨?_, hb⟩
 rw [numL_of hn, numL_of hl.1, hv, hl.2]
theorem num_some {x : Nat} (h : x < top) : ∃ l, NumIs l x := ⟨_, numL_num x, numL_val h⟩
def nuV (b : Nat) : V := .agg ((List.range 24).map fun i => .xi .u32 (.at (b + i)))
def numC (l : List Nat) : List Value := l.map fun n : Nat => .int .u32 (n : Int)
theorem nu_den {E : Nat -> Value} {b : Nat} {l : List Nat} (hl : l.length = 24) (h : ∀ i, i < 24 -> E (b + i) = .int .u32 (l.getD i 0 : Nat)) (L : Ex.Loc) : (nuV b).den L E = .agg (numV l) := by
 have key : ∀ (c : List Nat), V.dens L E (c.map fun i => .xi .u32 (.at (b + i))) = c.map fun i => .int .u32 (X.evI E (.at (b + i))) := by
  intro c
  induction c with
  | nil => rfl
  | cons i c ih => rw [List.map_cons, V.dens, ih, List.map_cons, V.den]
 show Value.agg (V.dens L E _).toArray = _
 rw [key]
 unfold numV
 congr 2
 apply List.ext_getElem
 ·rw [List.length_map, List.length_map, List.length_range, hl]
 ·intro i h1 h2
  rw [List.length_map, List.length_range] at h1
  rw [List.getElem_map, List.getElem_map, List.getElem_range, X.evI, h i h1]
  simp only [List.getD_eq_getElem?_getD, List.getElem?_eq_getElem (show i < l.length by omega), Option.getD_some]
theorem num_at {x : Value} {pre post : List Value} {b : Nat} {l : List Nat} (hl : l.length = 24) (hb : b = pre.length + 1) (i : Nat) (hi : i < 24) : envE (x :: (pre ++ (numC l ++ post))) (b + i) = .int .u32 (l.getD i 0 : Nat) := by
 subst hb
 have hi' : i < l.length := by omega
 unfold envE numC
 rw [show pre.length + 1 + i = (pre.length + i) + 1 by omega, List.getD_eq_getElem?_getD, List.getElem?_cons_succ, List.getElem?_append_right (by omega), show pre.length + i - pre.length = i by omega, List.getElem?_append_left (by rw [List.length_map]; exact hi'), List.getElem?_map]
 simp only [List.getD_eq_getElem?_getD, List.getElem?_eq_getElem hi', Option.map_some, Option.getD_some]
theorem numC_one (l : List Nat) : (numC l).all Value.oneCell' = true := by
 unfold numC
 rw [List.all_map, List.all_eq_true]
 intro n _; rfl
theorem call1 {f : FuncId} {a b : Value} {w : World} {Q : Ending -> World -> Prop} (h : a = b) (q : Calls Tryz.prog f #[b] w Q) : Calls Tryz.prog f #[a] w Q := by subst h; exact q
theorem call2 {f : FuncId} {a b a' b' : Value} {w : World} {Q : Ending -> World -> Prop} (h : a = b) (h' : a' = b') (q : Calls Tryz.prog f #[b, b'] w Q) : Calls Tryz.prog f #[a, a'] w Q := by subst h; subst h'; exact q
theorem call3 {f : FuncId} {a b a' b' c c' : Value} {w : World} {Q : Ending -> World -> Prop} (h : a = b) (h' : a' = b') (h'' : c = c') (q : Calls Tryz.prog f #[b, b', c'] w Q) : Calls Tryz.prog f #[a, a', c] w Q := by subst h; subst h'; subst h''; exact q
theorem callR {f : FuncId} {a : Array Value} {u v : Value} {w : World} (h : u = v) (q : Calls Tryz.prog f a w fun e w' => e = .returned v /\ Below w.heap.size w w') : Calls Tryz.prog f a w fun e w' => e = .returned u /\ Below w.heap.size w w' := by subst h; exact q
theorem pdigits_v {l : List Nat} {x : Nat} (hl : NumIs l x) {u : ByteArray} (hu : str (Dc.digs x) = u) (w : World) (hP : Pow w) : Calls Tryz.prog 172 #[.agg (numV l)] w fun e w' => e = .returned (.string u) /\ Below w.heap.size w w' := by
 refine (pdigits_any l hl.1 w hP).mono ?_
 rintro e w' ⟨⟨t, rfl, ht⟩, hb⟩
 rw [hl.2] at ht
 exact ⟨by rw [<- hu, <- ht, str_bts], hb⟩
theorem pof_v (neg : Bool) (x S : Nat) (hx : x < 10 ^ 200) (hS : S <= 1000) {u : ByteArray} (hu : str (Dc.digs x) = u) {r : Res} (hr : resOf (Dc.can neg x S) = r) (w : World) : Calls Tryz.prog 171 #[.bool neg, .string u, .int .i64 (S : Int)] w fun e w' => e = .returned r.val /\ Below w.heap.size w w' := by
 subst hu
 exact pof_is neg (str (Dc.digs x)) S (Nat.le_trans (digs_size (bts_digs x) hx (by decide)) (by decide)) hS (digs_all (bts_digs x)) r (by rw [val_of (bts_digs x)]; exact hr) w
theorem prun_opp : chk (runTr Tryz.prog nG (fun _ => none) (fun _ => true) deT [] 100 175 [deV 1] hN) opT [] = true := by decide +kernel
theorem popp_any (n : Bool) (s : ByteArray) (S : Int) (w : World) : Calls Tryz.prog 175 #[.agg #[.bool n, .string s, .int .i64 S]] w fun e w' => e = .returned (.agg #[.bool (oppN n s), .string s, .int .i64 S]) /\ Below w.heap.size w w' :=
 tree_nv (env := [.bool n, .string s, .int .i64 S]) prun_opp trivial rfl trivial rfl rfl (op_at n s S)
def puC : List CallX := [⟨83, [deV 1, .xi .i64 mxX], [], nuV 23⟩, ⟨83, [deV 4, .xi .i64 mxX], [], nuV 47⟩, ⟨84, [nuV 23, nuV 47], [], xi 7⟩, ⟨193, [nuV 23, nuV 47], [], nuV 71⟩, ⟨190, [nuV 47, nuV 23], [(.lt (.at 7) (.int 0), true)], nuV 95⟩, ⟨190, [nuV 23, nuV 47], [(.lt (.at 7) (.int 0), false)], nuV 119⟩,
 ⟨172, [nuV 71], [], xs 8⟩, ⟨172, [nuV 95], [], xs 9⟩, ⟨172, [nuV 119], [], xs 10⟩, ⟨171, [xb 1, xs 8, .xi .i64 mxX], [], rsV 11⟩, ⟨171, [xb 4, xs 9, .xi .i64 mxX], [], rsV 15⟩, ⟨171, [xb 1, xs 10, .xi .i64 mxX], [], rsV 19⟩]
theorem run_psum : chk (runTr Tryz.prog nG (fun _ => none) gd moT puC 100 174 [deV 1, deV 4] h0) (sumT (.lt (.at 7) (.int 0)) 11) [] = true := by decide +kernel
theorem cmpI_lt (a b : Nat) : decide (cmpI a b < 0) = decide (a < b) := by
 unfold cmpI
 by_cases h : a < b
 ·rw [if_pos h, decide_eq_true h]; rfl
 ·rw [if_neg h, decide_eq_false h]; split <;> rfl
theorem psum_is (n : Bool) (s : ByteArray) (S : Int) (m : Bool) (t : ByteArray) (U : Int) (k1 : OkD n s S) (k2 : OkD m t U) (w : World) {M : Int} (hV : Vars M w) : Calls Tryz.prog 174 #[.agg #[.bool n, .string s, .int .i64 S], .agg #[.bool m, .string t, .int .i64 U]] w fun e w' => e = .returned (resOf (Dc.addD (rawD n s S) (rawD m t U))).val /\ Below w.heap.size w w' := by
 obtain ⟨T, rfl⟩ : ∃ T : Nat, S = T := ⟨S.toNat, by have := k1.low; omega⟩
 obtain ⟨V, rfl⟩ : ∃ V : Nat, U = V := ⟨U.toNat, by have := k2.low; omega⟩
 have hT : T <= 60 := by have := k1.high; omega
 have hV0 : V <= 60 := by have := k2.high; omega
 obtain ⟨K, hK⟩ : ∃ K, max T V = K := ⟨_, rfl⟩
 have mx : (if (T : Int) < (V : Int) then (V : Int) else (T : Int)) = (K : Int) := by rw [mx_nat, hK]
 obtain ⟨A, hA⟩ : ∃ A, Dc.val (bts s) * 10 ^ (K - T) = A := ⟨_, rfl⟩
 obtain ⟨B, hB⟩ : ∃ B, Dc.val (bts t) * 10 ^ (K - V) = B := ⟨_, rfl⟩
 have lA : A < 10 ^ 120 := by rw [<- hA]; exact scaled_low k1.size k1.dig.all (by omega)
 have lB : B < 10 ^ 120 := by rw [<- hB]; exact scaled_low k2.size k2.dig.all (by omega)
 have l0 : (10 : Nat) ^ 120 + 10 ^ 120 <= 10 ^ 200 := by decide +kernel
 have lP : A + B < 10 ^ 200 := by omega
 obtain ⟨a, ha⟩ := num_some (lt_top lA (by decide))
 obtain ⟨b, hb⟩ := num_some (lt_top lB (by decide))
 obtain ⟨p, hp⟩ := num_some (lt_top lP (by decide))
 obtain ⟨c, hc⟩ := num_some (x := B - A) (lt_top (k := 200) (by omega) (by decide))
 obtain ⟨d, hd⟩ := num_some (x := A - B) (lt_top (k := 200) (by omega) (by decide))
 obtain ⟨x1, h1⟩ : ∃ x, str (Dc.digs (A + B)) = x := ⟨_, rfl⟩
 obtain ⟨x2, h2⟩ : ∃ x, str (Dc.digs (B - A)) = x := ⟨_, rfl⟩
 obtain ⟨x3, h3⟩ : ∃ x, str (Dc.digs (A - B)) = x := ⟨_, rfl⟩
 obtain ⟨r1, g1⟩ : ∃ r, resOf (Dc.can n (A + B) K) = r := ⟨_, rfl⟩
 obtain ⟨r2, g2⟩ : ∃ r, resOf (Dc.can m (B - A) K) = r := ⟨_, rfl⟩
 obtain ⟨r3, g3⟩ : ∃ r, resOf (Dc.can n (A - B) K) = r := ⟨_, rfl⟩
 obtain ⟨z, hz⟩ : ∃ z, cmpI A B = z := ⟨_, rfl⟩
 have hlt : decide (z < 0) = decide (A < B) := by rw [<- hz, cmpI_lt]
 obtain ⟨pre, hpre⟩ : ∃ l : List Value, l = .append [.bool n, .string s, .int .i64 (T : Int), .bool m, .string t, .int .i64 (V : Int), .int .i64 z, .string x1, .string x2, .string x3] (resC r1 (resC r2 (resL r3))) := ⟨_, rfl⟩
 have hpl : pre.length = 22 := by rw [hpre]; rfl
 have n1 := nu_den ha.1.len (num_at (x := .int .i64 M) (pre := pre) (post := numC b ++ (numC p ++ (numC c ++ numC d))) (b := 23) ha.1.len (by rw [hpl]))
 have n2 := nu_den hb.1.len (num_at (x := .int .i64 M) (pre := pre ++ numC a) (post := numC p ++ (numC c ++ numC d)) (b := 47) hb.1.len (by simp [hpl, numC, ha.1.len]))
 have n3 := nu_den hp.1.len (num_at (x := .int .i64 M) (pre := pre ++ numC a ++ numC b) (post := numC c ++ numC d) (b := 71) hp.1.len (by simp [hpl, numC, ha.1.len, hb.1.len]))
 have n4 := nu_den hc.1.len (num_at (x := .int .i64 M) (pre := pre ++ numC a ++ numC b ++ numC p) (post := numC d) (b := 95) hc.1.len (by simp [hpl, numC, ha.1.len, hb.1.len, hp.1.len]))
 have n5 := nu_den hd.1.len (num_at (x := .int .i64 M) (pre := pre ++ numC a ++ numC b ++ numC p ++ numC c) (post := []) (b := 119) hd.1.len (by simp [hpl, numC, ha.1.len, hb.1.len, hp.1.len, hc.1.len]))
 simp only [List.append_assoc, List.append_nil] at n1 n2 n3 n4 n5
 obtain ⟨post, hpost⟩ : ∃ l, numC a ++ (numC b ++ (numC p ++ (numC c ++ numC d))) = l := ⟨_, rfl⟩
 have hone : post.all Value.oneCell' = true := by rw [<- hpost]; simp only [List.all_append, numC_one, Bool.and_self]
 rw [hpost] at n1 n2 n3 n4 n5
 subst hpre
 refine tree_rv (env := .append [.bool n, .string s, .int .i64 (T : Int), .bool m, .string t, .int .i64 (V : Int), .int .i64 z, .string x1, .string x2, .string x3] (resC r1 (resC r2 (List.append (resL r3) post)))) run_psum ?_ hone trivial rfl rfl (sum_at (n := n) (m := m) (A := A) (B := B) rfl rfl hlt hK hA hB (r1 := r1) (r2 := r2) (r3 := r3) ⟨rfl, rfl, rfl, rfl⟩ ⟨rfl, rfl, rfl, rfl⟩ ⟨rfl, rfl, rfl, rfl⟩ g1.symm g2.symm g3.symm rfl) hV
 have z1 := k1.size; have z2 := k2.size
 refine ⟨⟨rfl, fk, fun _ L w hV => ?_⟩, ⟨rfl, fk, fun _ L w hV => ?_⟩, ⟨rfl, fk, fun _ L w hV => ?_⟩, ⟨rfl, fk, fun _ L w hV => ?_⟩, ⟨rfl, fk, fun hp' L w hV => ?_⟩, ⟨rfl, fk, fun hp' L w hV => ?_⟩, ⟨rfl, fk, fun _ L w hV => ?_⟩, ⟨rfl, fk, fun _ L w hV => ?_⟩, ⟨rfl, fk, fun _ L w hV => ?_⟩, ⟨rfl, fk, fun _ L w hV => ?_⟩, ⟨rfl, fk, fun _ L w hV => ?_⟩, ⟨rfl, fk, fun _ L w hV => ?_⟩, trivial⟩
 ·exact callR (n1 L) (call2 rfl (congrArg (Value.int .i64) mx) (num_call ha (hA ▸ pscaled_any n s T K z1 k1.dig.all (by omega) (by omega) w)))
 ·exact callR (n2 L) (call2 rfl (congrArg (Value.int .i64) mx) (num_call hb (hB ▸ pscaled_any m t V K z2 k2.dig.all (by omega) (by omega) w)))
 ·have h := pcmp_any a b ha.1 hb.1 w
  rw [ha.2, hb.2, hz] at h
  exact call2 (n1 L) (n2 L) h
 ·have h := pplus_any a b ha.1 hb.1 w
  rw [ha.2, hb.2, Nat.mod_eq_of_lt (lt_top lP (by decide))] at h
  exact callR (n3 L) (call2 (n1 L) (n2 L) (num_call hp h))
 ·have q := of_decide_eq_true (hlt.symm.trans (show decide (z < 0) = true from hp'.1))
  have h := pminus_any b a hb.1 ha.1 (by rw [ha.2, hb.2]; omega) w
  rw [ha.2, hb.2] at h
  exact callR (n4 L) (call2 (n2 L) (n1 L) (num_call hc h))
 ·have q := of_decide_eq_false (hlt.symm.trans (show decide (z < 0) = false from hp'.1))
  have h := pminus_any a b ha.1 hb.1 (by rw [ha.2, hb.2]; omega) w
  rw [ha.2, hb.2] at h
  exact callR (n5 L) (call2 (n1 L) (n2 L) (num_call hd h))
 ·exact call1 (n3 L) (pdigits_v hp h1 w hV.pow)
 ·exact call1 (n4 L) (pdigits_v hc h2 w hV.pow)
 ·exact call1 (n5 L) (pdigits_v hd h3 w hV.pow)
 ·exact call3 rfl rfl (congrArg (Value.int .i64) mx) (pof_v n (A + B) K lP (by omega) h1 g1 w)
 ·exact call3 rfl rfl (congrArg (Value.int .i64) mx) (pof_v m (B - A) K (by omega) (by omega) h2 g2 w)
 ·exact call3 rfl rfl (congrArg (Value.int .i64) mx) (pof_v n (A - B) K (by omega) (by omega) h3 g3 w)
end Go.Proofs.YthoojcdjjecogaaGreatDoor
