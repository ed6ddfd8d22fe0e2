/-
  Part 24 of the proof: what functions return, and plain facts (Mprz). Conditions: each theorem names its own.
-/
import Derived.Test.YthoojcdjjecogaaGreatDoorG23
set_option maxRecDepth 1000000
set_option maxHeartbeats 16000000
namespace Go.Proofs.YthoojcdjjecogaaGreatDoor
open Go Go.RowKit

theorem pd_zone (p r m : Nat) (s : ByteArray) (x : Mo) (hz_s : s.size <= 390) (w : World) (hxo : x.o = 0) (pd : PD w p r m s x) : Calls Tryz.prog 245 #[.pointer (some ⟨r, 0, none⟩), .pointer (some ⟨m, 0, none⟩)] w fun e w' => ((∃ (u : ByteArray) (zb : Bool) (zo : Int), e = .returned (.tuple #[]) /\ Mo.zoneP (bts s) = some (zb, zo) /\ PD w' p r m u ⟨x.k, x.y, x.m, x.d, x.h, x.i, x.n, x.s, x.S, zb, zo⟩) \/ (e = bad6 /\ Mo.zoneP (bts s) = none /\ ∃ x' : Mo, Blk w' m 26 x'.list.toArray)) /\ Ch [r, m] w w' := by
 have ch : Ch [r, m] w w := Ch.refl _ _
 go_enter Tryz.func245, Tryz.ntmps245
 by_cases h0 : s.size = 0
 ·have he := isEmpty_yes h0
  have he2 : (!s.toList.isEmpty) = false := by rw [he]; rfl
  have c0 := pd.rd.c0
  have HE := Lib.hid (bts_none h0)
  clear h0
  go_wp2_with (first
   | (refine wl_loadC pd.mo rfl (by kernel_rfl) _ rfl (j := 9) (v := .bool false) rfl rfl ?_)
   | (refine wl_storeC pd.mo rfl _ _ rfl rfl rfl rfl (by kernel_rfl) (Nat.le_of_ble_eq_true rfl) rfl (fun W7 b7 hg => ?_); replace pd := pd.store (y := ⟨x.k, x.y, x.m, x.d, x.h, x.i, x.n, x.s, x.S, false, x.o⟩) b7 hg; replace c0 := pd.rd.c0; replace ch := ch2g ch hg; clear hg b7))
  go_end0
  refine ⟨.inl ⟨s, false, x.o, rfl, by rw [HE.out, hxo]; rfl, pd⟩, ch⟩
 ·have hp : 0 < s.size := by omega
  have he := isEmpty_no hp
  have he2 : (!s.toList.isEmpty) = true := by rw [he]; rfl
  have c0 := pd.rd.c0
  have HS := Lib.hid (show bts s ≠ [] by rw [bts_head hp]; exact List.cons_ne_nil _ _)
  clear h0 hp
  go_wp2_with (first
   | (refine wl_loadC pd.mo rfl (by kernel_rfl) _ rfl (j := 9) (v := .bool true) rfl rfl ?_)
   | (refine wl_storeC pd.mo rfl _ _ rfl rfl rfl rfl (by kernel_rfl) (Nat.le_of_ble_eq_true rfl) rfl (fun W7 b7 hg => ?_); replace pd := pd.store (y := ⟨x.k, x.y, x.m, x.d, x.h, x.i, x.n, x.s, x.S, true, x.o⟩) b7 hg; replace ch := ch2g ch hg; clear hg b7 c0))
  refine (phas_n 90 90 rfl _ _ _ _ pd.rd).mono ?_
  rintro e v1 ⟨t1, x3, rfl, hh1, hz1, hr1, hc1⟩
  replace pd := pd.call hc1 hr1
  replace ch := ch2 ch hc1
  have E1 := Lib.hid hh1
  have hz_t1 : t1.size <= 390 := Nat.le_trans hz1 hz_s
  clear hr1 hc1 hh1 hz1
  cases x3 with
  | true =>
   have c0 := pd.rd.c0
   by_cases h1 : t1.size = 0
   ·have hf := isEmpty_yes h1
    have hf2 : (!t1.toList.isEmpty) = false := by rw [hf]; rfl
    have HT := Lib.hid (bts_none h1)
    clear h1
    go_wp2
    go_end0
    exact ⟨.inl ⟨t1, true, x.o, rfl, by unfold Mo.zoneP; rw [if_neg HS.out, E1.out, if_pos rfl, HT.out, if_pos rfl, hxo], pd⟩, ch⟩
   ·have hp1 : 0 < t1.size := by omega
    have hf := isEmpty_no hp1
    have hf2 : (!t1.toList.isEmpty) = true := by rw [hf]; rfl
    have HT := Lib.hid (show bts t1 ≠ [] by rw [bts_head hp1]; exact List.cons_ne_nil _ _)
    clear h1 hp1
    go_wp2
    exact ⟨rfl, .inr ⟨rfl, by unfold Mo.zoneP; rw [if_neg HS.out, E1.out, if_pos rfl, if_neg HT.out], _, pd.mo⟩, ch⟩
  | false =>
   have e1 : bts t1 = bts s := by
    have q := Mo.has_no (c := 90) (l := bts s) (by rw [E1.out])
    rw [E1.out] at q; exact q
   have HT1 := Lib.hid e1
   clear e1
   go_wp2_with fail
   refine (phas_n 45 45 rfl _ _ _ _ pd.rd).mono ?_
   rintro e v2 ⟨t2, x4, rfl, hh2, hz2, hr2, hc2⟩
   replace pd := pd.call hc2 hr2
   replace ch := ch2 ch hc2
   have E2 := Lib.hid (show Mo.hasP 45 (bts s) = (x4, bts t2) by rw [<- HT1.out]; exact hh2)
   have hz_t2 : t2.size <= 390 := Nat.le_trans hz2 hz_t1
   clear hr2 hc2 hh2 hz2
   have HZ : Hid (Mo.zoneP (bts s) = (Mo.signP (bts s)).bind fun q => (Mo.numP 2 q.2).bind fun h => (Mo.wantP 58 h.2).bind fun l1 => (Mo.numP 2 l1).bind fun k => if 59 < k.1 \/ k.2 ≠ [] then none else some (true, q.1 * (60 * (h.1 : Int) + (k.1 : Int)))) := Lib.hid (by unfold Mo.zoneP; rw [if_neg HS.out, E1.out]; rfl)
   cases x4 with
   | true =>
    have HG : Hid (Mo.signP (bts s) = some (-1, bts t2)) := Lib.hid (by unfold Mo.signP; rw [E2.out, if_pos rfl])
    go_wp2_with fail
    refine (pnumber_is _ _ _ 2 (Nat.le_trans hz_t2 (by decide)) (by decide) (by decide) _ pd.rd).mono ?_
    rintro e v5 ⟨⟨h2, t5, rfl, hh5, hl_h2, hz5, hr5⟩ | ⟨rfl, hh5⟩, hc5⟩
    rotate_left
    ·have EN := Lib.hid hh5
     have bm := hc5.blk pd.mo (by have := pd.mr; simp; omega)
     replace ch := ch2 ch hc5
     clear hh5 hc5
     unfold bad6
     go_wp2
     exact ⟨rfl, .inr ⟨rfl, by rw [HZ.out]; simp only [HG.out, EN.out, Option.bind_some, Option.bind_none], _, bm⟩, ch⟩
    replace pd := pd.call hc5 hr5
    replace ch := ch2 ch hc5
    have E5 := Lib.hid hh5
    have hz_t5 : t5.size <= 390 := Nat.le_trans hz5 hz_t2
    clear hr5 hc5 hh5 hz5
    go_wp2_with fail
    refine (pwant_n 58 58 rfl _ _ _ _ pd.rd).mono ?_
    rintro e v6 ⟨⟨t6, rfl, hh6, hz6, hr6⟩ | ⟨rfl, hh6⟩, hc6⟩
    rotate_left
    ·have EN := Lib.hid hh6
     have bm := hc6.blk pd.mo (by have := pd.mr; simp; omega)
     replace ch := ch2 ch hc6
     clear hh6 hc6
     unfold bad6
     go_wp2
     exact ⟨rfl, .inr ⟨rfl, by rw [HZ.out]; simp only [HG.out, E5.out, EN.out, Option.bind_some, Option.bind_none], _, bm⟩, ch⟩
    replace pd := pd.call hc6 hr6
    replace ch := ch2 ch hc6
    have E6 := Lib.hid hh6
    have hz_t6 : t6.size <= 390 := Nat.le_trans hz6 hz_t5
    clear hr6 hc6 hh6 hz6
    go_wp2_with fail
    refine (pnumber_is _ _ _ 2 (Nat.le_trans hz_t6 (by decide)) (by decide) (by decide) _ pd.rd).mono ?_
    rintro e v7 ⟨⟨i2, t7, rfl, hh7, hl_i2, hz7, hr7⟩ | ⟨rfl, hh7⟩, hc7⟩
    rotate_left
    ·have EN := Lib.hid hh7
     have bm := hc7.blk pd.mo (by have := pd.mr; simp; omega)
     replace ch := ch2 ch hc7
     clear hh7 hc7
     unfold bad6
     go_wp2
     exact ⟨rfl, .inr ⟨rfl, by rw [HZ.out]; simp only [HG.out, E5.out, E6.out, EN.out, Option.bind_some, Option.bind_none], _, bm⟩, ch⟩
    replace pd := pd.call hc7 hr7
    replace ch := ch2 ch hc7
    have E7 := Lib.hid hh7
    have hz_t7 : t7.size <= 390 := Nat.le_trans hz7 hz_t6
    clear hr7 hc7 hh7 hz7
    by_cases hm : 59 < i2
    ·have g1 : decide ((59 : Int) < (i2 : Int)) = true := decide_eq_true (by omega)
     have HM := Lib.hid hm
     clear hm
     go_wp2
     exact ⟨rfl, .inr ⟨rfl, by rw [HZ.out]; simp only [HG.out, E5.out, E6.out, E7.out, Option.bind_some]; rw [if_pos (.inl HM.out)], _, pd.mo⟩, ch⟩
    ·have g1 : decide ((59 : Int) < (i2 : Int)) = false := decide_eq_false (by omega)
     have HM := Lib.hid hm
     obtain ⟨z, hzz⟩ : ∃ z : Int, z = 60 * (h2 : Int) + (i2 : Int) := ⟨_, rfl⟩
     have e60 : (60 : Int) * (h2 : Int) + (i2 : Int) = z := hzz.symm
     have z0 : -1000000 <= z := by omega
     have z1 : z <= 1000000 := by omega
     have HZZ := Lib.hid hzz
     clear hm hzz
     go_upto_region 12 with (refine wl_storeC pd.mo rfl _ _ rfl rfl rfl rfl (by kernel_rfl) (Nat.le_of_ble_eq_true rfl) rfl (fun W8 b8 hg => ?_); replace pd := pd.store (y := ⟨x.k, x.y, x.m, x.d, x.h, x.i, x.n, x.s, x.S, true, (-z)⟩) b8 hg; replace ch := ch2g ch hg; clear hg b8)
     clear e60
     have c0 := pd.rd.c0
     by_cases h1 : t7.size = 0
     ·have hf := isEmpty_yes h1
      have hf2 : (!t7.toList.isEmpty) = false := by rw [hf]; rfl
      have HT := Lib.hid (bts_none h1)
      clear h1
      go_wp2
      go_end0
      exact ⟨.inl ⟨t7, true, -z, rfl, by
       rw [HZ.out]; simp only [HG.out, E5.out, E6.out, E7.out, Option.bind_some]
       rw [HT.out, if_neg (by simp; have := HM.out; omega)]
       congr 2; have := HZZ.out; omega, pd⟩, ch⟩
     ·have hp1 : 0 < t7.size := by omega
      have hf := isEmpty_no hp1
      have hf2 : (!t7.toList.isEmpty) = true := by rw [hf]; rfl
      have HT := Lib.hid (show bts t7 ≠ [] by rw [bts_head hp1]; exact List.cons_ne_nil _ _)
      clear h1 hp1
      go_wp2
      exact ⟨rfl, .inr ⟨rfl, by rw [HZ.out]; simp only [HG.out, E5.out, E6.out, E7.out, Option.bind_some]; rw [if_pos (.inr HT.out)], _, pd.mo⟩, ch⟩
   | false =>
    have e2 : bts t2 = bts s := by
     have q := Mo.has_no (c := 45) (l := bts s) (by rw [E2.out])
     rw [E2.out] at q; exact q
    have HT2 := Lib.hid e2
    clear e2
    go_wp2_with fail
    refine (pwant_n 43 43 rfl _ _ _ _ pd.rd).mono ?_
    rintro e v3 ⟨⟨t3, rfl, hh3, hz3, hr3⟩ | ⟨rfl, hh3⟩, hc3⟩
    rotate_left
    ·have HG : Hid (Mo.signP (bts s) = none) := Lib.hid (by unfold Mo.signP; rw [E2.out, if_neg (show ¬ (false = true) by decide), <- HT2.out, hh3]; rfl)
     have bm := hc3.blk pd.mo (by have := pd.mr; simp; omega)
     replace ch := ch2 ch hc3
     clear hh3 hc3
     unfold bad6
     go_wp2
     exact ⟨rfl, .inr ⟨rfl, by rw [HZ.out, HG.out]; rfl, _, bm⟩, ch⟩
    have HG : Hid (Mo.signP (bts s) = some (1, bts t3)) := Lib.hid (by unfold Mo.signP; rw [E2.out, if_neg (show ¬ (false = true) by decide), <- HT2.out, hh3]; rfl)
    replace pd := pd.call hc3 hr3
    replace ch := ch2 ch hc3
    have hz_t3 : t3.size <= 390 := Nat.le_trans hz3 hz_t2
    clear hr3 hc3 hh3 hz3
    go_wp2_with fail
    refine (pnumber_is _ _ _ 2 (Nat.le_trans hz_t3 (by decide)) (by decide) (by decide) _ pd.rd).mono ?_
    rintro e v5 ⟨⟨h2, t5, rfl, hh5, hl_h2, hz5, hr5⟩ | ⟨rfl, hh5⟩, hc5⟩
    rotate_left
    ·have EN := Lib.hid hh5
     have bm := hc5.blk pd.mo (by have := pd.mr; simp; omega)
     replace ch := ch2 ch hc5
     clear hh5 hc5
     unfold bad6
     go_wp2
     exact ⟨rfl, .inr ⟨rfl, by rw [HZ.out]; simp only [HG.out, EN.out, Option.bind_some, Option.bind_none], _, bm⟩, ch⟩
    replace pd := pd.call hc5 hr5
    replace ch := ch2 ch hc5
    have E5 := Lib.hid hh5
    have hz_t5 : t5.size <= 390 := Nat.le_trans hz5 hz_t3
    clear hr5 hc5 hh5 hz5
    go_wp2_with fail
    refine (pwant_n 58 58 rfl _ _ _ _ pd.rd).mono ?_
    rintro e v6 ⟨⟨t6, rfl, hh6, hz6, hr6⟩ | ⟨rfl, hh6⟩, hc6⟩
    rotate_left
    ·have EN := Lib.hid hh6
     have bm := hc6.blk pd.mo (by have := pd.mr; simp; omega)
     replace ch := ch2 ch hc6
     clear hh6 hc6
     unfold bad6
     go_wp2
     exact ⟨rfl, .inr ⟨rfl, by rw [HZ.out]; simp only [HG.out, E5.out, EN.out, Option.bind_some, Option.bind_none], _, bm⟩, ch⟩
    replace pd := pd.call hc6 hr6
    replace ch := ch2 ch hc6
    have E6 := Lib.hid hh6
    have hz_t6 : t6.size <= 390 := Nat.le_trans hz6 hz_t5
    clear hr6 hc6 hh6 hz6
    go_wp2_with fail
    refine (pnumber_is _ _ _ 2 (Nat.le_trans hz_t6 (by decide)) (by decide) (by decide) _ pd.rd).mono ?_
    rintro e v7 ⟨⟨i2, t7, rfl, hh7, hl_i2, hz7, hr7⟩ | ⟨rfl, hh7⟩, hc7⟩
    rotate_left
    ·have EN := Lib.hid hh7
     have bm := hc7.blk pd.mo (by have := pd.mr; simp; omega)
     replace ch := ch2 ch hc7
     clear hh7 hc7
     unfold bad6
     go_wp2
     exact ⟨rfl, .inr ⟨rfl, by rw [HZ.out]; simp only [HG.out, E5.out, E6.out, EN.out, Option.bind_some, Option.bind_none], _, bm⟩, ch⟩
    replace pd := pd.call hc7 hr7
    replace ch := ch2 ch hc7
    have E7 := Lib.hid hh7
    have hz_t7 : t7.size <= 390 := Nat.le_trans hz7 hz_t6
    clear hr7 hc7 hh7 hz7
    by_cases hm : 59 < i2
    ·have g1 : decide ((59 : Int) < (i2 : Int)) = true := decide_eq_true (by omega)
     have HM := Lib.hid hm
     clear hm
     go_wp2
     exact ⟨rfl, .inr ⟨rfl, by rw [HZ.out]; simp only [HG.out, E5.out, E6.out, E7.out, Option.bind_some]; rw [if_pos (.inl HM.out)], _, pd.mo⟩, ch⟩
    ·have g1 : decide ((59 : Int) < (i2 : Int)) = false := decide_eq_false (by omega)
     have HM := Lib.hid hm
     obtain ⟨z, hzz⟩ : ∃ z : Int, z = 60 * (h2 : Int) + (i2 : Int) := ⟨_, rfl⟩
     have e60 : (60 : Int) * (h2 : Int) + (i2 : Int) = z := hzz.symm
     have z0 : -1000000 <= z := by omega
     have z1 : z <= 1000000 := by omega
     have HZZ := Lib.hid hzz
     clear hm hzz
     go_upto_region 12 with (refine wl_storeC pd.mo rfl _ _ rfl rfl rfl rfl (by kernel_rfl) (Nat.le_of_ble_eq_true rfl) rfl (fun W8 b8 hg => ?_); replace pd := pd.store (y := ⟨x.k, x.y, x.m, x.d, x.h, x.i, x.n, x.s, x.S, true, (z)⟩) b8 hg; replace ch := ch2g ch hg; clear hg b8)
     clear e60
     have c0 := pd.rd.c0
     by_cases h1 : t7.size = 0
     ·have hf := isEmpty_yes h1
      have hf2 : (!t7.toList.isEmpty) = false := by rw [hf]; rfl
      have HT := Lib.hid (bts_none h1)
      clear h1
      go_wp2
      go_end0
      exact ⟨.inl ⟨t7, true, z, rfl, by
       rw [HZ.out]; simp only [HG.out, E5.out, E6.out, E7.out, Option.bind_some]
       rw [HT.out, if_neg (by simp; have := HM.out; omega)]
       congr 2; have := HZZ.out; omega, pd⟩, ch⟩
     ·have hp1 : 0 < t7.size := by omega
      have hf := isEmpty_no hp1
      have hf2 : (!t7.toList.isEmpty) = true := by rw [hf]; rfl
      have HT := Lib.hid (show bts t7 ≠ [] by rw [bts_head hp1]; exact List.cons_ne_nil _ _)
      clear h1 hp1
      go_wp2
      exact ⟨rfl, .inr ⟨rfl, by rw [HZ.out]; simp only [HG.out, E5.out, E6.out, E7.out, Option.bind_some]; rw [if_pos (.inr HT.out)], _, pd.mo⟩, ch⟩
end Go.Proofs.YthoojcdjjecogaaGreatDoor
