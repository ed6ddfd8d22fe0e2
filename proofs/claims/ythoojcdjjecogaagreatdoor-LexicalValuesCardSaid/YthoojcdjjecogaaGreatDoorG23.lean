/-
  Part 23 of the proof: what functions return, and plain facts (Mprp). Conditions: each theorem names its own.
-/
import Derived.Test.YthoojcdjjecogaaGreatDoorG22
import Derived.StillTailTactics
set_option maxRecDepth 1000000
set_option maxHeartbeats 16000000
namespace Go.Proofs.YthoojcdjjecogaaGreatDoor
open Go Go.RowKit

theorem phas_n (c : UInt8) (n : Nat) (hn : c.toNat = n) (p r : Nat) (s : ByteArray) (w : World) (h : RP w p r s) : Calls Tryz.prog 248 #[.pointer (some ⟨r, 0, none⟩), .string ⟨#[c]⟩] w fun e w' => ∃ (t : ByteArray) (x : Bool), e = .returned (.bool x) /\ Mo.hasP n (bts s) = (x, bts t) /\ t.size <= s.size /\ RP w' p r t /\ Ch [r] w w' := by
 subst hn
 refine (phas_is p r s c w h).mono ?_
 rintro e w' ⟨t, rfl, ht, hts, hr, hc⟩
 exact ⟨t, _, rfl, by rw [ht], hts, hr, hc⟩
theorem pwant_n (c : UInt8) (n : Nat) (hn : c.toNat = n) (p r : Nat) (s : ByteArray) (w : World) (h : RP w p r s) : Calls Tryz.prog 243 #[.pointer (some ⟨r, 0, none⟩), .string ⟨#[c]⟩] w fun e w' => ((∃ t : ByteArray, e = .returned (.tuple #[]) /\ Mo.wantP n (bts s) = some (bts t) /\ t.size <= s.size /\ RP w' p r t) \/ (e = bad6 /\ Mo.wantP n (bts s) = none)) /\ Ch [r] w w' := by
 subst hn
 exact pwant_is p r s c w h
structure PD (w : World) (p r m : Nat) (s : ByteArray) (x : Mo) : Prop where
 rd : RP w p r s
 mo : Blk w m 26 x.list.toArray
 mr : m ≠ r
 mp : m ≠ p
section
variable {w w' : World} {p r m : Nat} {s t : ByteArray} {x y : Mo}
theorem PD.call (h : PD w p r m s x) (hc : Ch [r] w w') (hr : RP w' p r t) : PD w' p r m t x := ⟨hr, hc.blk h.mo (by have := h.mr; simp; omega), h.mr, h.mp⟩
theorem PD.store (h : PD w p r m s x) (hb : Blk w' m 26 y.list.toArray) (hg : w.grownBy w' (some m)) : PD w' p r m s y :=
 ⟨h.rd.ch (Ch.ofGrown (S := [m]) hg (by simp)) (by have := h.mp; simp; omega) (by have := h.mr; simp; omega), hb, h.mr, h.mp⟩
theorem PD.pass (h : PD w p r m s x) (hb : Below w.heap.size w w') : PD w' p r m s x := ⟨h.rd.keep hb, h.mo.keep hb, h.mr, h.mp⟩
theorem PD.ch {S : List Nat} (h : PD w p r m s x) (hc : Ch S w w') (h1 : p ∉ S) (h2 : r ∉ S) (h3 : m ∉ S) : PD w' p r m s x := ⟨h.rd.ch hc h1 h2, hc.blk h.mo h3, h.mr, h.mp⟩
theorem ch2 {a b c : World} {r m : Nat} (h : Ch [r, m] a b) (k : Ch [r] b c) : Ch [r, m] a c := h.trans (k.mono (by simp))
theorem ch2g {a b c : World} {r m : Nat} (h : Ch [r, m] a b) (k : b.grownBy c (some m)) : Ch [r, m] a c := h.trans (Ch.ofGrown k (by simp))
theorem ch2b {a b c : World} {r m : Nat} (h : Ch [r, m] a b) (k : Below b.heap.size b c) : Ch [r, m] a c := h.trans (Ch.ofBelow k)
end
theorem cat_le' {a b c : ByteArray} {i j : Nat} (h : a ++ b = c) (ha : a.size <= i) (hb : b.size <= j) : c.size <= i + j := by rw [<- h, <- bts_length, str_add, List.length_append, bts_length, bts_length]; omega
theorem run_num (l : List Nat) : (∀ v r, Mo.numP (max 1 (Mo.runD l).length) l = some (v, r) -> Mo.runD l ≠ [] /\ l.take (max 1 (Mo.runD l).length) = Mo.runD l /\ r = Mo.runR l) /\ (Mo.numP (max 1 (Mo.runD l).length) l = none -> Mo.runD l = []) := by
 have e : l = Mo.runD l ++ Mo.runR l := (List.takeWhile_append_dropWhile).symm
 have hd : (Mo.runD l).all Dc.dig = true := by
  rw [List.all_eq_true]
  intro c hc
  exact Dc.takeWhile_all hc
 by_cases h0 : Mo.runD l = []
 ·refine ⟨fun v r h => ?_, fun _ => h0⟩
  exfalso
  rw [h0] at h
  unfold Mo.numP at h
  split at h
  ·rename_i hc
   obtain ⟨h1, h2⟩ := hc
   cases l with
   | nil => simp at h1
   | cons c t =>
    have hc : Dc.dig c = true := by simpa using h2
    rw [(Mo.run_cons hc).1] at h0
    cases h0
  ·cases h
 ·have hl : max 1 (Mo.runD l).length = (Mo.runD l).length := by
   have : (Mo.runD l).length ≠ 0 := fun q => h0 (List.length_eq_zero_iff.1 q)
   omega
  have ht : l.take (Mo.runD l).length = Mo.runD l := by
   have := List.take_left' (l₁ := Mo.runD l) (l₂ := Mo.runR l) rfl
   rwa [<- e] at this
  have hdr : l.drop (Mo.runD l).length = Mo.runR l := by
   have := List.drop_left' (l₁ := Mo.runD l) (l₂ := Mo.runR l) rfl
   rwa [<- e] at this
  have hle : (Mo.runD l).length <= l.length := by
   have := congrArg List.length e
   rw [List.length_append] at this; omega
  rw [hl]
  unfold Mo.numP
  rw [ht, hdr, if_pos ⟨hle, hd⟩]
  exact ⟨fun v r h => by cases h; exact ⟨h0, rfl, rfl⟩, fun h => by cases h⟩
theorem run_split_len (l : List Nat) : l.length = (Mo.runD l).length + (Mo.runR l).length := by
 have e : l = Mo.runD l ++ Mo.runR l := (List.takeWhile_append_dropWhile).symm
 have := congrArg List.length e
 rw [List.length_append] at this; exact this
theorem pd_date (p r m : Nat) (s : ByteArray) (x : Mo) (hz_s : s.size <= 390) (w : World) (pd : PD w p r m s x) : Calls Tryz.prog 242 #[.pointer (some ⟨r, 0, none⟩), .pointer (some ⟨m, 0, none⟩)] w fun e w' => ((∃ (u : ByteArray) (y mm d : Int), e = .returned (.tuple #[]) /\ Mo.dateP (bts s) = some ((y, mm, d), bts u) /\ u.size <= 390 /\ PD w' p r m u ⟨x.k, y, mm, d, x.h, x.i, x.n, x.s, x.S, x.z, x.o⟩) \/ (e = bad6 /\ Mo.dateP (bts s) = none /\ ∃ x' : Mo, Blk w' m 26 x'.list.toArray)) /\ Ch [r, m] w w' := by
 have ch : Ch [r, m] w w := Ch.refl _ _
 go_enter Tryz.func242, Tryz.ntmps242
 go_wp2_with fail
 refine (phas_n 45 45 rfl _ _ _ _ pd.rd).mono ?_
 rintro e v1 ⟨t1, x1, rfl, hh1, hz1, hr1, hc1⟩
 replace pd := pd.call hc1 hr1
 replace ch := ch2 ch hc1
 have E1 := Lib.hid hh1
 have hz_t1 : t1.size <= 390 := Nat.le_trans hz1 hz_s
 clear hr1 hc1 hh1 hz1
 go_wp2_with fail
 refine (pnumber_is _ _ _ 4 (Nat.le_trans hz_t1 (by decide)) (by decide) (by decide) _ pd.rd).mono ?_
 rintro e v2 ⟨⟨y1, t2, rfl, hh2, hl_y1, hz2, hr2⟩ | ⟨rfl, hh2⟩, hc2⟩
 rotate_left
 ·have EN := Lib.hid hh2
  have bm := hc2.blk pd.mo (by have := pd.mr; simp; omega)
  replace ch := ch2 ch hc2
  clear hh2 hc2
  unfold bad6
  go_wp2
  exact ⟨rfl, .inr ⟨rfl, by unfold Mo.dateP; simp only [E1.out, EN.out, Option.bind_none], _, bm⟩, ch⟩
 replace pd := pd.call hc2 hr2
 replace ch := ch2 ch hc2
 have E2 := Lib.hid hh2
 have hz_t2 : t2.size <= 390 := Nat.le_trans hz2 hz_t1
 clear hr2 hc2 hh2 hz2
 go_upto_region 2 with (refine wl_storeC pd.mo rfl _ _ rfl rfl rfl rfl (by kernel_rfl) (Nat.le_of_ble_eq_true rfl) rfl (fun W3s b3 hg => ?_); replace pd := pd.store (y := ⟨x.k, (y1 : Int), x.m, x.d, x.h, x.i, x.n, x.s, x.S, x.z, x.o⟩) b3 hg; replace ch := ch2g ch hg; clear hg b3)
 cases x1 with
 | true =>
  go_wp2_with (first
   | (refine wl_loadC pd.mo rfl (by kernel_rfl) _ rfl (j := 1) (v := .int .i64 (y1 : Int)) rfl rfl ?_)
   | (refine wl_storeC pd.mo rfl _ _ rfl rfl rfl rfl (by kernel_rfl) (Nat.le_of_ble_eq_true rfl) rfl (fun W7 b7 hg => ?_); replace pd := pd.store (y := ⟨x.k, (-(y1 : Int)), x.m, x.d, x.h, x.i, x.n, x.s, x.S, x.z, x.o⟩) b7 hg; replace ch := ch2g ch hg; clear hg b7))
  refine (pwant_n 45 45 rfl _ _ _ _ pd.rd).mono ?_
  rintro e v4 ⟨⟨t4, rfl, hh4, hz4, hr4⟩ | ⟨rfl, hh4⟩, hc4⟩
  rotate_left
  ·have EN := Lib.hid hh4
   have bm := hc4.blk pd.mo (by have := pd.mr; simp; omega)
   replace ch := ch2 ch hc4
   clear hh4 hc4
   unfold bad6
   go_wp2
   exact ⟨rfl, .inr ⟨rfl, by unfold Mo.dateP; simp only [E1.out, E2.out, EN.out, Option.bind_some, Option.bind_none], _, bm⟩, ch⟩
  replace pd := pd.call hc4 hr4
  replace ch := ch2 ch hc4
  have E4 := Lib.hid hh4
  have hz_t4 : t4.size <= 390 := Nat.le_trans hz4 hz_t2
  clear hr4 hc4 hh4 hz4
  go_wp2_with fail
  refine (pnumber_is _ _ _ 2 (Nat.le_trans hz_t4 (by decide)) (by decide) (by decide) _ pd.rd).mono ?_
  rintro e v5 ⟨⟨m1, t5, rfl, hh5, hl_m1, hz5, hr5⟩ | ⟨rfl, hh5⟩, hc5⟩
  rotate_left
  ·have EN := Lib.hid hh5
   have bm := hc5.blk pd.mo (by have := pd.mr; simp; omega)
   replace ch := ch2 ch hc5
   clear hh5 hc5
   unfold bad6
   go_wp2
   exact ⟨rfl, .inr ⟨rfl, by unfold Mo.dateP; simp only [E1.out, E2.out, E4.out, EN.out, Option.bind_some, Option.bind_none], _, bm⟩, ch⟩
  replace pd := pd.call hc5 hr5
  replace ch := ch2 ch hc5
  have E5 := Lib.hid hh5
  have hz_t5 : t5.size <= 390 := Nat.le_trans hz5 hz_t4
  clear hr5 hc5 hh5 hz5
  go_upto_region 6 with (refine wl_storeC pd.mo rfl _ _ rfl rfl rfl rfl (by kernel_rfl) (Nat.le_of_ble_eq_true rfl) rfl (fun W6s b6 hg => ?_); replace pd := pd.store (y := ⟨x.k, (-(y1 : Int)), (m1 : Int), x.d, x.h, x.i, x.n, x.s, x.S, x.z, x.o⟩) b6 hg; replace ch := ch2g ch hg; clear hg b6)
  go_wp2_with fail
  refine (pwant_n 45 45 rfl _ _ _ _ pd.rd).mono ?_
  rintro e v7 ⟨⟨t7, rfl, hh7, hz7, hr7⟩ | ⟨rfl, hh7⟩, hc7⟩
  rotate_left
  ·have EN := Lib.hid hh7
   have bm := hc7.blk pd.mo (by have := pd.mr; simp; omega)
   replace ch := ch2 ch hc7
   clear hh7 hc7
   unfold bad6
   go_wp2
   exact ⟨rfl, .inr ⟨rfl, by unfold Mo.dateP; simp only [E1.out, E2.out, E4.out, E5.out, EN.out, Option.bind_some, Option.bind_none], _, bm⟩, ch⟩
  replace pd := pd.call hc7 hr7
  replace ch := ch2 ch hc7
  have E7 := Lib.hid hh7
  have hz_t7 : t7.size <= 390 := Nat.le_trans hz7 hz_t5
  clear hr7 hc7 hh7 hz7
  go_wp2_with fail
  refine (pnumber_is _ _ _ 2 (Nat.le_trans hz_t7 (by decide)) (by decide) (by decide) _ pd.rd).mono ?_
  rintro e v8 ⟨⟨d1, t8, rfl, hh8, hl_d1, hz8, hr8⟩ | ⟨rfl, hh8⟩, hc8⟩
  rotate_left
  ·have EN := Lib.hid hh8
   have bm := hc8.blk pd.mo (by have := pd.mr; simp; omega)
   replace ch := ch2 ch hc8
   clear hh8 hc8
   unfold bad6
   go_wp2
   exact ⟨rfl, .inr ⟨rfl, by unfold Mo.dateP; simp only [E1.out, E2.out, E4.out, E5.out, E7.out, EN.out, Option.bind_some, Option.bind_none], _, bm⟩, ch⟩
  replace pd := pd.call hc8 hr8
  replace ch := ch2 ch hc8
  have E8 := Lib.hid hh8
  have hz_t8 : t8.size <= 390 := Nat.le_trans hz8 hz_t7
  clear hr8 hc8 hh8 hz8
  go_wp2_with (refine wl_storeC pd.mo rfl _ _ rfl rfl rfl rfl (by kernel_rfl) (Nat.le_of_ble_eq_true rfl) rfl (fun W9s b9 hg => ?_); replace pd := pd.store (y := ⟨x.k, (-(y1 : Int)), (m1 : Int), (d1 : Int), x.h, x.i, x.n, x.s, x.S, x.z, x.o⟩) b9 hg; replace ch := ch2g ch hg; clear hg b9)
  go_end0
  exact ⟨.inl ⟨t8, (-(y1 : Int)), m1, d1, rfl, by unfold Mo.dateP; simp only [E1.out, E2.out, E4.out, E5.out, E7.out, E8.out, Option.bind_some]; rfl, hz_t8, pd⟩, ch⟩
 | false =>
  go_wp2_with fail
  refine (pwant_n 45 45 rfl _ _ _ _ pd.rd).mono ?_
  rintro e v4 ⟨⟨t4, rfl, hh4, hz4, hr4⟩ | ⟨rfl, hh4⟩, hc4⟩
  rotate_left
  ·have EN := Lib.hid hh4
   have bm := hc4.blk pd.mo (by have := pd.mr; simp; omega)
   replace ch := ch2 ch hc4
   clear hh4 hc4
   unfold bad6
   go_wp2
   exact ⟨rfl, .inr ⟨rfl, by unfold Mo.dateP; simp only [E1.out, E2.out, EN.out, Option.bind_some, Option.bind_none], _, bm⟩, ch⟩
  replace pd := pd.call hc4 hr4
  replace ch := ch2 ch hc4
  have E4 := Lib.hid hh4
  have hz_t4 : t4.size <= 390 := Nat.le_trans hz4 hz_t2
  clear hr4 hc4 hh4 hz4
  go_wp2_with fail
  refine (pnumber_is _ _ _ 2 (Nat.le_trans hz_t4 (by decide)) (by decide) (by decide) _ pd.rd).mono ?_
  rintro e v5 ⟨⟨m1, t5, rfl, hh5, hl_m1, hz5, hr5⟩ | ⟨rfl, hh5⟩, hc5⟩
  rotate_left
  ·have EN := Lib.hid hh5
   have bm := hc5.blk pd.mo (by have := pd.mr; simp; omega)
   replace ch := ch2 ch hc5
   clear hh5 hc5
   unfold bad6
   go_wp2
   exact ⟨rfl, .inr ⟨rfl, by unfold Mo.dateP; simp only [E1.out, E2.out, E4.out, EN.out, Option.bind_some, Option.bind_none], _, bm⟩, ch⟩
  replace pd := pd.call hc5 hr5
  replace ch := ch2 ch hc5
  have E5 := Lib.hid hh5
  have hz_t5 : t5.size <= 390 := Nat.le_trans hz5 hz_t4
  clear hr5 hc5 hh5 hz5
  go_upto_region 6 with (refine wl_storeC pd.mo rfl _ _ rfl rfl rfl rfl (by kernel_rfl) (Nat.le_of_ble_eq_true rfl) rfl (fun W6s b6 hg => ?_); replace pd := pd.store (y := ⟨x.k, (y1 : Int), (m1 : Int), x.d, x.h, x.i, x.n, x.s, x.S, x.z, x.o⟩) b6 hg; replace ch := ch2g ch hg; clear hg b6)
  go_wp2_with fail
  refine (pwant_n 45 45 rfl _ _ _ _ pd.rd).mono ?_
  rintro e v7 ⟨⟨t7, rfl, hh7, hz7, hr7⟩ | ⟨rfl, hh7⟩, hc7⟩
  rotate_left
  ·have EN := Lib.hid hh7
   have bm := hc7.blk pd.mo (by have := pd.mr; simp; omega)
   replace ch := ch2 ch hc7
   clear hh7 hc7
   unfold bad6
   go_wp2
   exact ⟨rfl, .inr ⟨rfl, by unfold Mo.dateP; simp only [E1.out, E2.out, E4.out, E5.out, EN.out, Option.bind_some, Option.bind_none], _, bm⟩, ch⟩
  replace pd := pd.call hc7 hr7
  replace ch := ch2 ch hc7
  have E7 := Lib.hid hh7
  have hz_t7 : t7.size <= 390 := Nat.le_trans hz7 hz_t5
  clear hr7 hc7 hh7 hz7
  go_wp2_with fail
  refine (pnumber_is _ _ _ 2 (Nat.le_trans hz_t7 (by decide)) (by decide) (by decide) _ pd.rd).mono ?_
  rintro e v8 ⟨⟨d1, t8, rfl, hh8, hl_d1, hz8, hr8⟩ | ⟨rfl, hh8⟩, hc8⟩
  rotate_left
  ·have EN := Lib.hid hh8
   have bm := hc8.blk pd.mo (by have := pd.mr; simp; omega)
   replace ch := ch2 ch hc8
   clear hh8 hc8
   unfold bad6
   go_wp2
   exact ⟨rfl, .inr ⟨rfl, by unfold Mo.dateP; simp only [E1.out, E2.out, E4.out, E5.out, E7.out, EN.out, Option.bind_some, Option.bind_none], _, bm⟩, ch⟩
  replace pd := pd.call hc8 hr8
  replace ch := ch2 ch hc8
  have E8 := Lib.hid hh8
  have hz_t8 : t8.size <= 390 := Nat.le_trans hz8 hz_t7
  clear hr8 hc8 hh8 hz8
  go_wp2_with (refine wl_storeC pd.mo rfl _ _ rfl rfl rfl rfl (by kernel_rfl) (Nat.le_of_ble_eq_true rfl) rfl (fun W9s b9 hg => ?_); replace pd := pd.store (y := ⟨x.k, (y1 : Int), (m1 : Int), (d1 : Int), x.h, x.i, x.n, x.s, x.S, x.z, x.o⟩) b9 hg; replace ch := ch2g ch hg; clear hg b9)
  go_end0
  exact ⟨.inl ⟨t8, (y1 : Int), m1, d1, rfl, by unfold Mo.dateP; simp only [E1.out, E2.out, E4.out, E5.out, E7.out, E8.out, Option.bind_some]; rfl, hz_t8, pd⟩, ch⟩
theorem pd_time (p r m : Nat) (s : ByteArray) (x : Mo) (hz_s : s.size <= 390) (w : World) (pd : PD w p r m s x) : Calls Tryz.prog 244 #[.pointer (some ⟨r, 0, none⟩), .pointer (some ⟨m, 0, none⟩)] w fun e w' => ((∃ (u sec : ByteArray) (h i : Int), e = .returned (.string sec) /\ Mo.timeP (bts s) = some ((h, i, bts sec), bts u) /\ u.size <= 390 /\ sec.size <= 400 /\ PD w' p r m u ⟨x.k, x.y, x.m, x.d, h, i, x.n, x.s, x.S, x.z, x.o⟩) \/ (e = bad6 /\ Mo.timeP (bts s) = none /\ ∃ x' : Mo, Blk w' m 26 x'.list.toArray)) /\ Ch [r, m] w w' := by
 have ch : Ch [r, m] w w := Ch.refl _ _
 go_enter Tryz.func244, Tryz.ntmps244
 go_wp2_with fail
 refine (pnumber_is _ _ _ 2 (Nat.le_trans hz_s (by decide)) (by decide) (by decide) _ pd.rd).mono ?_
 rintro e v1 ⟨⟨h1, t1, rfl, hh1, hl_h1, hz1, hr1⟩ | ⟨rfl, hh1⟩, hc1⟩
 rotate_left
 ·have EN := Lib.hid hh1
  have bm := hc1.blk pd.mo (by have := pd.mr; simp; omega)
  replace ch := ch2 ch hc1
  clear hh1 hc1
  unfold bad6
  go_wp2
  exact ⟨rfl, .inr ⟨rfl, by unfold Mo.timeP; simp only [EN.out, Option.bind_none], _, bm⟩, ch⟩
 replace pd := pd.call hc1 hr1
 replace ch := ch2 ch hc1
 have E1 := Lib.hid hh1
 have hz_t1 : t1.size <= 390 := Nat.le_trans hz1 hz_s
 clear hr1 hc1 hh1 hz1
 go_upto_region 2 with (refine wl_storeC pd.mo rfl _ _ rfl rfl rfl rfl (by kernel_rfl) (Nat.le_of_ble_eq_true rfl) rfl (fun W2s b2 hg => ?_); replace pd := pd.store (y := ⟨x.k, x.y, x.m, x.d, (h1 : Int), x.i, x.n, x.s, x.S, x.z, x.o⟩) b2 hg; replace ch := ch2g ch hg; clear hg b2)
 go_wp2_with fail
 refine (pwant_n 58 58 rfl _ _ _ _ pd.rd).mono ?_
 rintro e v3 ⟨⟨t3, rfl, hh3, hz3, hr3⟩ | ⟨rfl, hh3⟩, hc3⟩
 rotate_left
 ·have EN := Lib.hid hh3
  have bm := hc3.blk pd.mo (by have := pd.mr; simp; omega)
  replace ch := ch2 ch hc3
  clear hh3 hc3
  unfold bad6
  go_wp2
  exact ⟨rfl, .inr ⟨rfl, by unfold Mo.timeP; simp only [E1.out, EN.out, Option.bind_some, Option.bind_none], _, bm⟩, ch⟩
 replace pd := pd.call hc3 hr3
 replace ch := ch2 ch hc3
 have E3 := Lib.hid hh3
 have hz_t3 : t3.size <= 390 := Nat.le_trans hz3 hz_t1
 clear hr3 hc3 hh3 hz3
 go_wp2_with fail
 refine (pnumber_is _ _ _ 2 (Nat.le_trans hz_t3 (by decide)) (by decide) (by decide) _ pd.rd).mono ?_
 rintro e v4 ⟨⟨i1, t4, rfl, hh4, hl_i1, hz4, hr4⟩ | ⟨rfl, hh4⟩, hc4⟩
 rotate_left
 ·have EN := Lib.hid hh4
  have bm := hc4.blk pd.mo (by have := pd.mr; simp; omega)
  replace ch := ch2 ch hc4
  clear hh4 hc4
  unfold bad6
  go_wp2
  exact ⟨rfl, .inr ⟨rfl, by unfold Mo.timeP; simp only [E1.out, E3.out, EN.out, Option.bind_some, Option.bind_none], _, bm⟩, ch⟩
 replace pd := pd.call hc4 hr4
 replace ch := ch2 ch hc4
 have E4 := Lib.hid hh4
 have hz_t4 : t4.size <= 390 := Nat.le_trans hz4 hz_t3
 clear hr4 hc4 hh4 hz4
 go_upto_region 4 with (refine wl_storeC pd.mo rfl _ _ rfl rfl rfl rfl (by kernel_rfl) (Nat.le_of_ble_eq_true rfl) rfl (fun W5s b5 hg => ?_); replace pd := pd.store (y := ⟨x.k, x.y, x.m, x.d, (h1 : Int), (i1 : Int), x.n, x.s, x.S, x.z, x.o⟩) b5 hg; replace ch := ch2g ch hg; clear hg b5)
 go_wp2_with fail
 refine (pwant_n 58 58 rfl _ _ _ _ pd.rd).mono ?_
 rintro e v6 ⟨⟨t6, rfl, hh6, hz6, hr6⟩ | ⟨rfl, hh6⟩, hc6⟩
 rotate_left
 ·have EN := Lib.hid hh6
  have bm := hc6.blk pd.mo (by have := pd.mr; simp; omega)
  replace ch := ch2 ch hc6
  clear hh6 hc6
  unfold bad6
  go_wp2
  exact ⟨rfl, .inr ⟨rfl, by unfold Mo.timeP; simp only [E1.out, E3.out, E4.out, EN.out, Option.bind_some, Option.bind_none], _, bm⟩, ch⟩
 replace pd := pd.call hc6 hr6
 replace ch := ch2 ch hc6
 have E6 := Lib.hid hh6
 have hz_t6 : t6.size <= 390 := Nat.le_trans hz6 hz_t4
 clear hr6 hc6 hh6 hz6
 have c1 := pd.rd.c1
 go_wp2_with fail
 clear c1
 refine (pdigits_is _ _ _ 2 (Nat.le_trans hz_t6 (by decide)) (by decide) _ pd.rd).mono ?_
 rintro e v10 ⟨⟨t, u, rfl, hn, htk, ht2, htd, hus, hr⟩ | ⟨rfl, hn⟩, hc⟩
 rotate_left
 ·have EN := Lib.hid hn
  have bm := hc.blk pd.mo (by have := pd.mr; simp; omega)
  replace ch := ch2 ch hc
  clear hn hc
  unfold bad6
  go_wp2
  exact ⟨rfl, .inr ⟨rfl, by unfold Mo.timeP; simp only [E1.out, E3.out, E4.out, E6.out, Option.bind_some]; unfold Mo.secP; simp only [EN.out, Option.bind_none], _, bm⟩, ch⟩
 replace pd := pd.call hc hr
 replace ch := ch2 ch hc
 have ED := Lib.hid hn
 have ET := Lib.hid htk
 have hz_u : u.size <= 390 := Nat.le_trans hus hz_t6
 clear hn htk htd hus hr hc
 go_wp2_with fail
 refine (phas_n 46 46 rfl _ _ _ _ pd.rd).mono ?_
 rintro e v11 ⟨u2, x2, rfl, hh, hu2, hr, hc⟩
 replace pd := pd.call hc hr
 replace ch := ch2 ch hc
 have EH := Lib.hid hh
 have hz_u2 : u2.size <= 390 := Nat.le_trans hu2 hz_u
 clear hh hr hc hu2
 have ht2l : t.size <= 400 := by omega
 cases x2 with
 | false =>
  go_wp2
  go_ret
  have e2 : bts u2 = bts u := by
   have q := Mo.has_no (c := 46) (l := bts u) (by rw [EH.out])
   rw [EH.out] at q; exact q
  exact ⟨.inl ⟨u2, t, h1, i1, rfl, by unfold Mo.timeP; simp only [E1.out, E3.out, E4.out, E6.out, Option.bind_some]; unfold Mo.secP; simp only [ED.out, Option.bind_some, EH.out, Bool.false_eq_true, if_false, ET.out, e2], hz_u2, ht2l, pd⟩, ch⟩
 | true =>
  have c0 := pd.rd.c0
  go_wp2_with fail
  clear c0
  refine (ptrim_is _ _).mono ?_
  rintro e v12 ⟨rest, rfl, hrest, hb⟩
  replace pd := pd.pass hb
  replace ch := ch2b ch hb
  clear hb
  obtain ⟨L, hL⟩ : ∃ L, (Mo.runD (bts u2)).length = L := ⟨_, rfl⟩
  have hlen : (u2.size : Int) - (rest.size : Int) = (L : Int) := by
   have q := run_split_len (bts u2)
   rw [bts_length, hL, <- hrest, bts_length] at q
   omega
  obtain ⟨N, hN⟩ : ∃ N : Nat, N = max 1 L := ⟨_, rfl⟩
  have hmx : max (1 : Int) (L : Int) = (N : Int) := by omega
  have hLz : L <= u2.size := by
   have q := run_split_len (bts u2)
   rw [bts_length, hL] at q
   omega
  have hNz : N <= 1000000 := by omega
  have HN : Hid (N = max 1 (Mo.runD (bts u2)).length) := Lib.hid (by rw [hL]; exact hN)
  have hrz : rest.size <= 390 := by
   have q := run_split_len (bts u2)
   rw [bts_length, <- hrest, bts_length] at q
   omega
  have hlen2 : IntKind.i64.wrap ((u2.size : Int) - (rest.size : Int)) = (L : Int) := by rw [hlen, w64 (by omega) (by omega)]
  clear hN hrest hL
  go_upto_region 8 with fail
  have c0 := pd.rd.c0
  have c1 := pd.rd.c1
  refine wp_region_any (by kernel_rfl) ?_
  change wpAny _ _ _ _ _ _ _ (World.drew _)
  have ch0 := Lib.hid ch
  refine wpAny_take (i := 0) (v := .string t) rfl (by kernel_rfl) (by kernel_rfl) (by kernel_rfl) (fun _ _ _ h => h) (Or.inl ⟨by rfl, fun w => by go_simp⟩) ?_
  refine wpAny_take (i := 1) (v := .pointer (some ⟨r, 0, none⟩)) rfl (by kernel_rfl) (by kernel_rfl) (by kernel_rfl) (fun _ _ _ h => h) (Or.inl ⟨by rfl, fun w => by go_simp⟩) ?_
  refine wpAny_take (i := 2) (v := .pointer (some ⟨r, 0, none⟩)) rfl (by kernel_rfl) (by kernel_rfl) (by kernel_rfl) (fun _ _ _ h => h) (Or.inl ⟨by rfl, fun w => by go_simp⟩) ?_
  refine wpAny_take (i := 3) (v := .pointer (some ⟨r, 1, none⟩)) rfl (by kernel_rfl) (by kernel_rfl) (by kernel_rfl) (fun _ _ _ h => h) (Or.inl ⟨by rfl, fun w => by go_simp⟩) ?_
  refine wpAny_take (i := 5) (v := .pointer (some ⟨r, 0, none⟩)) rfl (by kernel_rfl) (by kernel_rfl) (by kernel_rfl) (fun _ _ _ h => h) (Or.inl ⟨by rfl, fun w => by go_simp⟩) ?_
  refine wpAny_take (i := 6) (v := .pointer (some ⟨r, 0, none⟩)) rfl (by kernel_rfl) (by kernel_rfl) (by kernel_rfl) (fun _ _ _ h => h) (Or.inl ⟨by rfl, fun w => by go_simp⟩) ?_
  refine wpAny_take (i := 7) (v := .pointer (some ⟨r, 0, none⟩)) rfl (by kernel_rfl) (by kernel_rfl) (by kernel_rfl) (fun _ _ _ h => h) (Or.inl ⟨by rfl, fun w => by go_simp⟩) ?_
  refine wpAny_take (i := 10) (v := .string rest) rfl (by kernel_rfl) (by kernel_rfl) (by kernel_rfl) (fun _ _ _ h => h) (Or.inl ⟨by rfl, fun w => by go_simp⟩) ?_
  refine wpAny_take (i := 11) (v := .int .i64 (rest.size : Int)) rfl (by kernel_rfl) (by kernel_rfl) (by kernel_rfl) (fun _ _ _ h => h) (Or.inl ⟨by rfl, fun w => by go_simp⟩) ?_
  refine wpAny_ready (rs := [4, 8]) (by kernel_rfl) (by simp) ?_
  refine AllReady.cons rfl (fun K hK => ?_) (AllReady.cons rfl (fun K hK => ?_) AllReady.nil)
  ·go_simp
   refine hK _ _ ?_
   clear hK K
   refine wpAny_ready (rs := [8]) (by kernel_rfl) (by simp) ?_
   refine AllReady.cons rfl (fun K hK => ?_) AllReady.nil
   go_simp
   refine hK _ _ ?_
   clear hK K
   refine wpAny_take (i := 9) (v := .int .i64 (u2.size : Int)) rfl (by kernel_rfl) (by kernel_rfl) (by kernel_rfl) (fun _ _ _ h => h) (Or.inl ⟨by rfl, fun w => by go_simp⟩) ?_
   refine wpAny_take (i := 12) (v := .int .i64 (L : Int)) rfl (by kernel_rfl) (by kernel_rfl) (by kernel_rfl) (fun _ _ _ h => h) (Or.inl ⟨by rfl, fun w => by go_simp; rw [w64 (by omega) (by omega)]⟩) ?_
   refine wpAny_take (i := 13) (v := .int .i64 (N : Int)) rfl (by kernel_rfl) (by kernel_rfl) (by kernel_rfl) (fun _ _ _ h => h) (Or.inl ⟨by rfl, fun w => by go_simp⟩) ?_
   refine wpAny_ready (rs := [14]) (by kernel_rfl) (by simp) ?_
   refine AllReady.cons rfl (fun K hK => ?_) AllReady.nil
   go_simp
   clear c0 c1
   refine (pdigits_is _ _ _ N (Nat.le_trans hz_u2 (by decide)) hNz _ (pd.pass (below_drew _)).rd).mono ?_
   rintro e v13 ⟨⟨t4, u4, rfl, hn, htk, ht4, htd, hus, hr⟩ | ⟨rfl, hn⟩, hc⟩
   ·have hfin := (run_num (bts u2)).1 _ _ (by rw [<- HN.out]; exact hn)
    have hne : ¬ Mo.runD (bts u2) = [] := hfin.1
    have htk2 : bts t4 = Mo.runD (bts u2) := by rw [htk, HN.out]; exact hfin.2.1
    have hu4 : bts u4 = Mo.runR (bts u2) := hfin.2.2
    have hone : (⟨#[46]⟩ : ByteArray).size <= 1 := Nat.le_refl _
    have ht4l : t4.size <= 390 := by omega
    obtain ⟨q1, hq1⟩ : ∃ q, ⟨#[46]⟩ ++ t4 = q := ⟨_, rfl⟩
    have lq1 := cat_le' hq1 hone ht4l
    obtain ⟨q2, hq2⟩ : ∃ q, t ++ q1 = q := ⟨_, rfl⟩
    have lq2 := cat_le' hq2 (Nat.le_of_eq ht2) lq1
    have pd2 := Lib.hid ((pd.pass (below_drew _)).call hc hr)
    have ch2' := Lib.hid (ch2 (ch2b ch (below_drew _)) hc)
    have HS := Lib.hid (show bts q2 = bts t ++ 46 :: bts t4 by rw [<- hq2, <- hq1, str_add, str_add]; rfl)
    have hz_u4 : u4.size <= 390 := Nat.le_trans hus hz_u2
    have hsl : q2.size <= 400 := by omega
    have HE := Lib.hid (show Mo.timeP (bts s) = some (((h1 : Int), (i1 : Int), bts q2), bts u4) by unfold Mo.timeP; simp only [E1.out, E3.out, E4.out, E6.out, Option.bind_some]; unfold Mo.secP; simp only [ED.out, Option.bind_some, EH.out, if_true, if_neg hne, ET.out]; rw [HS.out, ET.out, htk2, hu4])
    clear hn htk htd hus hr hc pd ch hfin
    refine hK _ _ ?_
    clear hK K
    refine wpAny_take (i := 15) (v := .string q1) rfl (by kernel_rfl) (by kernel_rfl) (by kernel_rfl) (fun _ _ _ h => h) (Or.inl ⟨by rfl, fun w => by go_simp; first | done | omega | (rw [if_neg (by omega)])⟩) ?_
    refine wpAny_take (i := 16) (v := .string q2) rfl (by kernel_rfl) (by kernel_rfl) (by kernel_rfl) (fun _ _ _ h => h) (Or.inl ⟨by rfl, fun w => by go_simp; first | done | omega | (rw [if_neg (by omega)])⟩) ?_
    refine wpAny_take (i := 17) (v := .string q2) rfl (by kernel_rfl) (by kernel_rfl) (by kernel_rfl) (fun _ _ _ h => h) (Or.inl ⟨by rfl, fun w => by go_simp⟩) ?_
    refine wpAny_done (by kernel_rfl) ?_ _
    go_wp2
    go_ret
    exact ⟨.inl ⟨u4, q2, h1, i1, rfl, HE.out, hz_u4, hsl, pd2.out⟩, ch2'.out⟩
   ·have hne : Mo.runD (bts u2) = [] := (run_num (bts u2)).2 (by rw [<- HN.out]; exact hn)
    have ch2' := Lib.hid (ch2 (ch2b ch (below_drew _)) hc)
    have bm := hc.blk (pd.pass (below_drew _)).mo (by have := pd.mr; simp; omega)
    have HE := Lib.hid (show Mo.timeP (bts s) = none by unfold Mo.timeP; simp only [E1.out, E3.out, E4.out, E6.out, Option.bind_some]; unfold Mo.secP; simp only [ED.out, Option.bind_some, EH.out, if_true, if_pos hne, Option.bind_none])
    clear hn hc pd ch
    unfold bad6
    go_wp2
    exact ⟨rfl, .inr ⟨rfl, HE.out, _, bm⟩, ch2'.out⟩
  ·go_simp
   refine hK _ _ ?_
   clear hK K
   refine wpAny_take (i := 9) (v := .int .i64 (u2.size : Int)) rfl (by kernel_rfl) (by kernel_rfl) (by kernel_rfl) (fun _ _ _ h => h) (Or.inl ⟨by rfl, fun w => by go_simp⟩) ?_
   refine wpAny_take (i := 12) (v := .int .i64 (L : Int)) rfl (by kernel_rfl) (by kernel_rfl) (by kernel_rfl) (fun _ _ _ h => h) (Or.inl ⟨by rfl, fun w => by go_simp; rw [w64 (by omega) (by omega)]⟩) ?_
   refine wpAny_take (i := 13) (v := .int .i64 (N : Int)) rfl (by kernel_rfl) (by kernel_rfl) (by kernel_rfl) (fun _ _ _ h => h) (Or.inl ⟨by rfl, fun w => by go_simp⟩) ?_
   refine wpAny_ready (rs := [4]) (by kernel_rfl) (by simp) ?_
   refine AllReady.cons rfl (fun K hK => ?_) AllReady.nil
   go_simp
   refine hK _ _ ?_
   clear hK K
   refine wpAny_ready (rs := [14]) (by kernel_rfl) (by simp) ?_
   refine AllReady.cons rfl (fun K hK => ?_) AllReady.nil
   go_simp
   clear c0 c1
   refine (pdigits_is _ _ _ N (Nat.le_trans hz_u2 (by decide)) hNz _ (pd.pass (below_drew _)).rd).mono ?_
   rintro e v13 ⟨⟨t4, u4, rfl, hn, htk, ht4, htd, hus, hr⟩ | ⟨rfl, hn⟩, hc⟩
   ·have hfin := (run_num (bts u2)).1 _ _ (by rw [<- HN.out]; exact hn)
    have hne : ¬ Mo.runD (bts u2) = [] := hfin.1
    have htk2 : bts t4 = Mo.runD (bts u2) := by rw [htk, HN.out]; exact hfin.2.1
    have hu4 : bts u4 = Mo.runR (bts u2) := hfin.2.2
    have hone : (⟨#[46]⟩ : ByteArray).size <= 1 := Nat.le_refl _
    have ht4l : t4.size <= 390 := by omega
    obtain ⟨q1, hq1⟩ : ∃ q, ⟨#[46]⟩ ++ t4 = q := ⟨_, rfl⟩
    have lq1 := cat_le' hq1 hone ht4l
    obtain ⟨q2, hq2⟩ : ∃ q, t ++ q1 = q := ⟨_, rfl⟩
    have lq2 := cat_le' hq2 (Nat.le_of_eq ht2) lq1
    have pd2 := Lib.hid ((pd.pass (below_drew _)).call hc hr)
    have ch2' := Lib.hid (ch2 (ch2b ch (below_drew _)) hc)
    have HS := Lib.hid (show bts q2 = bts t ++ 46 :: bts t4 by rw [<- hq2, <- hq1, str_add, str_add]; rfl)
    have hz_u4 : u4.size <= 390 := Nat.le_trans hus hz_u2
    have hsl : q2.size <= 400 := by omega
    have HE := Lib.hid (show Mo.timeP (bts s) = some (((h1 : Int), (i1 : Int), bts q2), bts u4) by unfold Mo.timeP; simp only [E1.out, E3.out, E4.out, E6.out, Option.bind_some]; unfold Mo.secP; simp only [ED.out, Option.bind_some, EH.out, if_true, if_neg hne, ET.out]; rw [HS.out, ET.out, htk2, hu4])
    clear hn htk htd hus hr hc pd ch hfin
    refine hK _ _ ?_
    clear hK K
    refine wpAny_take (i := 15) (v := .string q1) rfl (by kernel_rfl) (by kernel_rfl) (by kernel_rfl) (fun _ _ _ h => h) (Or.inl ⟨by rfl, fun w => by go_simp; first | done | omega | (rw [if_neg (by omega)])⟩) ?_
    refine wpAny_take (i := 16) (v := .string q2) rfl (by kernel_rfl) (by kernel_rfl) (by kernel_rfl) (fun _ _ _ h => h) (Or.inl ⟨by rfl, fun w => by go_simp; first | done | omega | (rw [if_neg (by omega)])⟩) ?_
    refine wpAny_take (i := 17) (v := .string q2) rfl (by kernel_rfl) (by kernel_rfl) (by kernel_rfl) (fun _ _ _ h => h) (Or.inl ⟨by rfl, fun w => by go_simp⟩) ?_
    refine wpAny_done (by kernel_rfl) ?_ _
    go_wp2
    go_ret
    exact ⟨.inl ⟨u4, q2, h1, i1, rfl, HE.out, hz_u4, hsl, pd2.out⟩, ch2'.out⟩
   ·have hne : Mo.runD (bts u2) = [] := (run_num (bts u2)).2 (by rw [<- HN.out]; exact hn)
    have ch2' := Lib.hid (ch2 (ch2b ch (below_drew _)) hc)
    have bm := hc.blk (pd.pass (below_drew _)).mo (by have := pd.mr; simp; omega)
    have HE := Lib.hid (show Mo.timeP (bts s) = none by unfold Mo.timeP; simp only [E1.out, E3.out, E4.out, E6.out, Option.bind_some]; unfold Mo.secP; simp only [ED.out, Option.bind_some, EH.out, if_true, if_pos hne, Option.bind_none])
    clear hn hc pd ch
    unfold bad6
    go_wp2
    exact ⟨rfl, .inr ⟨rfl, HE.out, _, bm⟩, ch2'.out⟩
end Go.Proofs.YthoojcdjjecogaaGreatDoor
