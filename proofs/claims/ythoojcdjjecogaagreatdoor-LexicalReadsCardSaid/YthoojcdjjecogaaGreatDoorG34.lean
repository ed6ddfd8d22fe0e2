/-
  Part 34 of the proof: what functions return, and plain facts (Mrread2). Conditions: each theorem names its own.
-/
import Derived.Test.YthoojcdjjecogaaGreatDoorG31
set_option maxRecDepth 1000000
set_option maxHeartbeats 16000000
namespace Go.Proofs.YthoojcdjjecogaaGreatDoor
open Go Go.RowKit

theorem rread2 (l : ByteArray) (hs : l.size <= 300) (w : World) (M : Int) (hV : Vars M w) : Calls Tryz.prog 29 #[.int .i64 2, .string l] w fun e w' => e = .returned (.tuple #[(Mo.readM 2 (bts l)).1.val, .int .i64 (Mo.readM 2 (bts l)).2]) /\ Below w.heap.size w w' := by
 go_enter Tryz.func29, Tryz.ntmps29
 go_upto_region 3 with (first
  | (go_at_call 57; refine (rdated2 _).mono ?_; rintro e w1 ⟨rfl, rfl⟩)
  | (go_at_call 58; refine (rtimed2 _).mono ?_; rintro e w1 ⟨rfl, rfl⟩)
  | (refine wl_allocA rfl zero_mo rfl (fun W2 b2 hb => ?_); have hB := hb; clear hb))
 go_upto_region 4 with (refine wl_boxA rfl (.tmp 25) rfl rfl (fun W3 b3 hb => ?_); have l2 := b2.lt; replace b2 := b2.keep hb; replace hB := below_step hB hb; clear hb)
 go_upto_region 5 with (first
  | (refine wl_allocA rfl zero_mo rfl (fun W4 b4 hb => ?_); have l3 := b3.lt; replace b2 := b2.keep hb; replace b3 := b3.keep hb; replace hB := below_step hB hb; clear hb)
  | (refine wl_storeA b4 rfl _ _ rfl rfl rfl (by kernel_rfl) rfl rfl rfl (fun W5 b5 hg => ?_); have st := (SD.mk (o := some (bts l)) b2 ⟨l, false, b3, hs, rfl, rfl⟩ b4 l2 l3 hB).store (y := ⟨2, 0, 0, 0, 0, 0, false, ⟨#[]⟩, 0, false, 0⟩) b5 hg; clear hg b2 b3 b4 b5 hB))
 go_upto_region 18 with (first | (go_at_call 57; refine (rdated2 _).mono ?_; rintro e w1 ⟨rfl, rfl⟩) | (go_at_call 58; refine (rtimed2 _).mono ?_; rintro e w1 ⟨rfl, rfl⟩))
 go_wp2_with fail
 refine (rnumber_o _ _ 2 (by decide) _ st.rd).mono ?_
 rintro e v1 ⟨h1, rfl, hl_h1, r1, c1, hv1⟩
 replace st := st.call (o' := Mo.numO 2 (some (bts l))) c1 r1
 have HH1 : Hid (Mo.isNum 2 (some (bts l)) h1) := Lib.hid hv1
 clear hv1 r1 c1
 go_upto_region 19 with (refine wl_storeC st.mo rfl _ _ rfl rfl rfl rfl (by kernel_rfl) (Nat.le_of_ble_eq_true rfl) rfl (fun W2s b2 hg => ?_); replace st := st.store (y := ⟨2, 0, 0, 0, (h1 : Int), 0, false, ⟨#[]⟩, 0, false, 0⟩) b2 hg; clear hg b2)
 go_wp2_with fail
 refine (rwant_o _ _ 58 _ st.rd).mono ?_
 rintro e v3 ⟨rfl, r3, c3⟩
 replace st := st.call (o' := Mo.wantO 58 (Mo.numO 2 (some (bts l)))) c3 r3
 clear r3 c3
 go_wp2_with fail
 refine (rnumber_o _ _ 2 (by decide) _ st.rd).mono ?_
 rintro e v4 ⟨i1, rfl, hl_i1, r4, c4, hv4⟩
 replace st := st.call (o' := Mo.numO 2 (Mo.wantO 58 (Mo.numO 2 (some (bts l))))) c4 r4
 have HI1 : Hid (Mo.isNum 2 (Mo.wantO 58 (Mo.numO 2 (some (bts l)))) i1) := Lib.hid hv4
 clear hv4 r4 c4
 go_upto_region 21 with (refine wl_storeC st.mo rfl _ _ rfl rfl rfl rfl (by kernel_rfl) (Nat.le_of_ble_eq_true rfl) rfl (fun W5s b5 hg => ?_); replace st := st.store (y := ⟨2, 0, 0, 0, (h1 : Int), (i1 : Int), false, ⟨#[]⟩, 0, false, 0⟩) b5 hg; clear hg b5)
 go_wp2_with fail
 refine (rwant_o _ _ 58 _ st.rd).mono ?_
 rintro e v6 ⟨rfl, r6, c6⟩
 replace st := st.call (o' := Mo.wantO 58 (Mo.numO 2 (Mo.wantO 58 (Mo.numO 2 (some (bts l)))))) c6 r6
 clear r6 c6
 go_wp2_with fail
 refine (rnumber_o _ _ 2 (by decide) _ st.rd).mono ?_
 rintro e v7 ⟨s1, rfl, hl_s1, r7, c7, hv7⟩
 replace st := st.call (o' := Mo.numO 2 (Mo.wantO 58 (Mo.numO 2 (Mo.wantO 58 (Mo.numO 2 (some (bts l))))))) c7 r7
 have HS1 : Hid (Mo.isNum 2 (Mo.wantO 58 (Mo.numO 2 (Mo.wantO 58 (Mo.numO 2 (some (bts l)))))) s1) := Lib.hid hv7
 clear hv7 r7 c7
 go_wp2_with fail
 refine (rtwo_is s1 2 (by decide) (by omega) _).mono ?_
 rintro e w9 ⟨t1, rfl, ht1, hb⟩
 replace st := st.pass hb
 have HT1 := Lib.hid ht1
 have ht1l : t1.size <= 2 := by rw [ht1, str_size, twoL_length]; exact Nat.le_refl _
 clear ht1 hb
 go_wp2_with fail
 refine (ris_o _ _ 46 _ st.rd).mono ?_
 rintro e v8 ⟨x2, rfl, r8, c8, hx8⟩
 replace st := st.call (o' := Mo.hasO 46 (Mo.numO 2 (Mo.wantO 58 (Mo.numO 2 (Mo.wantO 58 (Mo.numO 2 (some (bts l)))))))) c8 r8
 have HX2 : Hid (Mo.isHas 46 (Mo.numO 2 (Mo.wantO 58 (Mo.numO 2 (Mo.wantO 58 (Mo.numO 2 (some (bts l))))))) x2) := Lib.hid hx8
 clear hx8 r8 c8
 go_upto_if 71 with fail
 go_cut [9] (fun v W => ∃ (x2 : Bool) (v2 : Nat) (t : ByteArray), v = .string t /\ t.size <= 400 /\ SD w W W2.heap.size W3.heap.size ⟨2, 0, 0, 0, (h1 : Int), (i1 : Int), false, ⟨#[]⟩, 0, false, 0⟩ (Mo.secO x2 (Mo.numO 2 (Mo.wantO 58 (Mo.numO 2 (Mo.wantO 58 (Mo.numO 2 (some (bts l)))))))) /\ Hid (Mo.isHas 46 (Mo.numO 2 (Mo.wantO 58 (Mo.numO 2 (Mo.wantO 58 (Mo.numO 2 (some (bts l))))))) x2 /\ (x2 = true -> Mo.isNum 1 (Mo.hasO 46 (Mo.numO 2 (Mo.wantO 58 (Mo.numO 2 (Mo.wantO 58 (Mo.numO 2 (some (bts l)))))))) v2) /\ ∀ l', Mo.secO x2 (Mo.numO 2 (Mo.wantO 58 (Mo.numO 2 (Mo.wantO 58 (Mo.numO 2 (some (bts l))))))) = some l' -> bts t = Mo.secS x2 s1 v2 (Mo.numO 1 (Mo.hasO 46 (Mo.numO 2 (Mo.wantO 58 (Mo.numO 2 (Mo.wantO 58 (Mo.numO 2 (some (bts l)))))))))))
 case first =>
  cases x2 with
  | false =>
   go_wp2
   go_meet
   case rel => exact ⟨false, 0, t1, rfl, by omega, st, Lib.hid ⟨HX2.out, (fun h => by cases h), fun _ _ => by
    unfold Mo.secS
    rw [HT1.out, bts_str _ (twoL_lt _ _), if_neg (by decide), List.append_nil]⟩⟩
  | true =>
   go_wp2_with fail
   refine (rnumber_o _ _ 1 (by decide) _ st.rd).mono ?_
   rintro e v9 ⟨v2, rfl, hl_v2, r9, c9, hv9⟩
   replace st := st.call (o' := Mo.numO 1 (Mo.hasO 46 (Mo.numO 2 (Mo.wantO 58 (Mo.numO 2 (Mo.wantO 58 (Mo.numO 2 (some (bts l))))))))) c9 r9
   have HV2 : Hid (Mo.isNum 1 (Mo.hasO 46 (Mo.numO 2 (Mo.wantO 58 (Mo.numO 2 (Mo.wantO 58 (Mo.numO 2 (some (bts l)))))))) v2) := Lib.hid hv9
   clear hv9 r9 c9
   have hnd : (str (twoL 1 v2)).size <= 1 := by rw [str_size, twoL_length]; exact Nat.le_refl _
   go_wp2_with fail
   refine (rtwo_is v2 1 (by decide) (by omega) _).mono ?_
   rintro e w9 ⟨t2, rfl, ht2, hb⟩
   replace st := st.pass hb
   have HT2 := Lib.hid ht2
   have ht2l : t2.size <= 1 := by rw [ht2]; exact hnd
   clear ht2 hb hnd
   obtain ⟨t3, ht3⟩ : ∃ t3, t1 ++ ⟨#[46]⟩ = t3 := ⟨_, rfl⟩
   obtain ⟨t4, ht4⟩ : ∃ t4, t3 ++ t2 = t4 := ⟨_, rfl⟩
   have ht3l : t3.size <= 3 := by rw [<- bts_length, <- ht3, str_add, List.length_append, bts_length]; show _ + 1 <= 3; omega
   have ht4l : t4.size <= 4 := by rw [<- bts_length, <- ht4, str_add, List.length_append, bts_length, bts_length]; omega
   have HT4 : Hid (bts t4 = twoL 2 s1 ++ 46 :: twoL 1 v2) := Lib.hid (by
    rw [<- ht4, <- ht3, str_add, str_add, HT1.out, HT2.out, bts_str _ (twoL_lt _ _), bts_str _ (twoL_lt _ _), List.append_assoc]; rfl)
   have hone : (⟨#[46]⟩ : ByteArray).size <= 1 := Nat.le_refl _
   go_wp2
   obtain ⟨s0, q0, hb0, hs0, hl0⟩ := st.rd
   obtain ⟨O7, hO7⟩ : ∃ O7 : Mo.Ob, O7 = Mo.numO 1 (Mo.hasO 46 (Mo.numO 2 (Mo.wantO 58 (Mo.numO 2 (Mo.wantO 58 (Mo.numO 2 (some (bts l)))))))) := ⟨_, rfl⟩
   have HO7 := Lib.hid hO7
   rw [<- hO7] at st hl0
   have HL0 := Lib.hid hl0
   clear hO7 hl0 ht3 ht4
   go_loopw [9] (fun v wr => ∃ (j : Nat) (t u : ByteArray), v = .string t /\ j <= s0.size /\ u.size + j = s0.size /\ t.size = t4.size + j /\ Hid (bts u = (bts s0).drop j /\ ((bts s0).take j).all Dc.dig = true /\ bts t = bts t4 ++ (bts s0).take j) /\ RR wr W2.heap.size u q0 /\ SD w wr W2.heap.size W3.heap.size ⟨2, 0, 0, 0, (h1 : Int), (i1 : Int), false, ⟨#[]⟩, 0, false, 0⟩ (O7.map fun l => l.drop j)) (fun v _ => match v with | .string t => 1000 - t.size | _ => 0)
   case atStart =>
    refine ⟨0, t4, s0, rfl, Nat.zero_le _, rfl, rfl, Lib.hid ⟨rfl, rfl, by simp⟩, hb0, ?_⟩
    have e : (O7.map fun l => l.drop 0) = O7 := by cases O7 <;> rfl
    rw [e]; exact st
   case round =>
    clear hb0 st
    obtain ⟨j, t, u, rfl, hj, huj, htj, hd, hb0, st⟩ := hrel
    have c0 := hb0.c0
    have f0 := hb0.f0 0
    have hend : Hid ((∀ c r, bts u = c :: r -> Dc.dig c = false) -> (O7.map fun l => l.drop j) = Mo.runO O7 /\ ∀ l', O7 = some l' -> bts t = twoL 2 s1 ++ 46 :: (twoL 1 v2 ++ Mo.runD l')) := Lib.hid (fun hu => by
     obtain ⟨q1, q2, q3⟩ := hd.out
     have hl := HL0.out
     cases O7 with
     | none => exact ⟨rfl, fun _ h => by cases h⟩
     | some l1 =>
      obtain ⟨_, e1⟩ := hl
      rw [q1] at hu
      obtain ⟨e2, e3⟩ := Mo.run_split q2 hu
      refine ⟨?_, fun l' h => ?_⟩
      ·show some _ = some _
       rw [<- e1, e3]
      ·cases h
       rw [q3, HT4.out, <- e1, e2, List.append_assoc]; rfl)
    by_cases h0 : u.size = 0
    ·have he := isEmpty_yes h0
     have he2 : (!u.toList.isEmpty) = false := by rw [he]; rfl
     have hf := Lib.hid (hend.out (fun c r h => by rw [bts_none h0] at h; cases h))
     have htl : t.size <= 400 := by omega
     clear hend hd h0
     go_wp2
     go_meet
     case rel => exact ⟨true, v2, t, rfl, htl, by rw [hf.out.1, HO7.out] at st; exact st, Lib.hid ⟨HX2.out, fun _ => HV2.out, fun l' h => by
      unfold Mo.secS
      rw [if_pos rfl, <- HO7.out]
      have h : Mo.runO (Mo.numO 1 (Mo.hasO 46 (Mo.numO 2 (Mo.wantO 58 (Mo.numO 2 (Mo.wantO 58 (Mo.numO 2 (some (bts l))))))))) = some l' := h
      rw [<- HO7.out] at h
      cases hO : O7 with
      | none => rw [hO] at h; cases h
      | some l1 => exact hf.out.2 l1 hO⟩⟩
    ·have hp : 0 < u.size := by omega
     have he := isEmpty_no hp
     have he2 : (!u.toList.isEmpty) = true := by rw [he]; rfl
     have hz : (0 : Int) < (u.size : Int) := by omega
     have hh := Lib.hid (bts_head hp)
     obtain ⟨c, hcc⟩ : ∃ c, (u[0]'hp).toNat = c := ⟨_, rfl⟩
     by_cases hdg : 48 <= c /\ c <= 57
     ·obtain ⟨d1_, d2_⟩ := hdg
      have g1 : decide ((48 : Int) <= (c : Int)) = true := decide_eq_true (by omega)
      have g2 : decide ((c : Int) <= 57) = true := decide_eq_true (by omega)
      obtain ⟨a, ha⟩ : ∃ a, u.extract 0 1 = a := ⟨_, rfl⟩
      obtain ⟨x, hx⟩ : ∃ x, u.extract 1 u.size = x := ⟨_, rfl⟩
      have hab := Lib.hid (show bts a = [c] by rw [<- ha, bts_take1 hp, hcc])
      have hxb := Lib.hid (show bts x = (bts u).tail by rw [<- hx, bts_tail])
      have hal : a.size <= 1 := by rw [<- bts_length, hab.out]; exact Nat.le_refl _
      have hxl : x.size + 1 = u.size := by rw [<- bts_length x, hxb.out, List.length_tail, bts_length]; omega
      have k1 : (1 : Int) <= (u.size : Int) := by omega
      have htl : t.size <= 400 := by omega
      have hd2 : Hid (bts x = (bts s0).drop (j + 1) /\ ((bts s0).take (j + 1)).all Dc.dig = true /\ bts (t ++ a) = bts t4 ++ (bts s0).take (j + 1)) := Lib.hid (by
       obtain ⟨q1, q2, q3⟩ := hd.out
       have hjs : j < (bts s0).length := by rw [bts_length]; omega
       have e2 : (bts s0).drop j = (bts s0)[j] :: (bts s0).drop (j + 1) := List.drop_eq_getElem_cons hjs
       have e3 : c :: (bts u).tail = (bts s0)[j] :: (bts s0).drop (j + 1) := by rw [<- e2, <- q1, hh.out, hcc]; rfl
       obtain ⟨e4, e5⟩ := List.cons.inj e3
       have e6 : (bts s0).take (j + 1) = (bts s0).take j ++ [c] := by rw [List.take_succ_eq_append_getElem hjs, <- e4]
       refine ⟨by rw [hxb.out, e5], ?_, ?_⟩
       ·rw [e6, List.all_append, q2]; simp [Dc.dig, d1_, d2_]
       ·rw [str_add, q3, hab.out, e6, List.append_assoc])
      have hta : Hid ((t ++ a).size = t4.size + (j + 1)) := Lib.hid (by
       rw [<- bts_length, hd2.out.2.2, List.length_append, List.length_take, bts_length, bts_length]; omega)
      have hst2 := Lib.hid (SD.call st (w' := wr.setCell ⟨W2.heap.size, 0, none⟩ (.string x)) (o' := O7.map fun l => l.drop (j + 1)) ((Ch.refl _ _).set (by simp) _ _) ⟨x, q0, hb0.put x, by omega, by
       have hl := HL0.out
       cases O7 with
       | none => exact hl
       | some l1 => exact ⟨hl.1, by rw [hd2.out.1, hl.2]⟩⟩)
      have hb2 := Lib.hid (hb0.put x)
      clear hd hh hxb hab hend st
      go_wp2
      go_roundw
      case rel => exact ⟨j + 1, t ++ a, x, rfl, by omega, by omega, hta.out, hd2, hb2.out, hst2.out⟩
      case measure => have := hta.out; show 1000 - (t ++ a).size < 1000 - t.size; omega
     ·have hf := Lib.hid (hend.out (fun c' r h => by
       rw [hh.out, hcc] at h
       cases h
       cases hq : Dc.dig c with
       | false => rfl
       | true => exact absurd (Dc.dig_iff.1 hq) hdg))
      have htl : t.size <= 400 := by omega
      have hfin : Hid (∃ (x2 : Bool) (v2 : Nat) (t' : ByteArray), Value.string t = .string t' /\ t'.size <= 400 /\ SD w wr W2.heap.size W3.heap.size ⟨2, 0, 0, 0, (h1 : Int), (i1 : Int), false, ⟨#[]⟩, 0, false, 0⟩ (Mo.secO x2 (Mo.numO 2 (Mo.wantO 58 (Mo.numO 2 (Mo.wantO 58 (Mo.numO 2 (some (bts l)))))))) /\ Hid (Mo.isHas 46 (Mo.numO 2 (Mo.wantO 58 (Mo.numO 2 (Mo.wantO 58 (Mo.numO 2 (some (bts l))))))) x2 /\ (x2 = true -> Mo.isNum 1 (Mo.hasO 46 (Mo.numO 2 (Mo.wantO 58 (Mo.numO 2 (Mo.wantO 58 (Mo.numO 2 (some (bts l)))))))) v2) /\ ∀ l', Mo.secO x2 (Mo.numO 2 (Mo.wantO 58 (Mo.numO 2 (Mo.wantO 58 (Mo.numO 2 (some (bts l))))))) = some l' -> bts t' = Mo.secS x2 s1 v2 (Mo.numO 1 (Mo.hasO 46 (Mo.numO 2 (Mo.wantO 58 (Mo.numO 2 (Mo.wantO 58 (Mo.numO 2 (some (bts l))))))))))) := Lib.hid ⟨true, v2, t, rfl, htl, by rw [hf.out.1, HO7.out] at st; exact st, Lib.hid ⟨HX2.out, fun _ => HV2.out, fun l' h => by
       unfold Mo.secS
       rw [if_pos rfl, <- HO7.out]
       have h : Mo.runO (Mo.numO 1 (Mo.hasO 46 (Mo.numO 2 (Mo.wantO 58 (Mo.numO 2 (Mo.wantO 58 (Mo.numO 2 (some (bts l))))))))) = some l' := h
       rw [<- HO7.out] at h
       cases hO : O7 with
       | none => rw [hO] at h; cases h
       | some l1 => exact hf.out.2 l1 hO⟩⟩
      clear hend hd hh hf st
      by_cases h1 : 48 <= c
      ·have g1 : decide ((48 : Int) <= (c : Int)) = true := decide_eq_true (by omega)
       have g2 : decide ((c : Int) <= 57) = false := decide_eq_false (by omega)
       clear hdg h1
       go_wp2
       go_meet
       case rel => exact hfin.out
      ·have g1 : decide ((48 : Int) <= (c : Int)) = false := decide_eq_false (by omega)
       clear hdg h1
       go_wp2
       go_meet
       case rel => exact hfin.out
 case rest =>
 clear st
 obtain ⟨x2, v2, t, rfl, htl, st, hsec⟩ := hcut
 have HTT := Lib.hid (Mo.time_chain HH1.out HI1.out HS1.out hsec.out.1 hsec.out.2.1)
 have HSS : Hid (∀ l', Mo.secO x2 (Mo.numO 2 (Mo.wantO 58 (Mo.numO 2 (Mo.wantO 58 (Mo.numO 2 (some (bts l))))))) = some l' -> bts t = Mo.secS x2 s1 v2 (Mo.numO 1 (Mo.hasO 46 (Mo.numO 2 (Mo.wantO 58 (Mo.numO 2 (Mo.wantO 58 (Mo.numO 2 (some (bts l)))))))))) := Lib.hid hsec.out.2.2
 clear hsec HH1 HI1 HS1 HT1
 obtain ⟨OS, hOS⟩ : ∃ OS : Mo.Ob, OS = Mo.secO x2 (Mo.numO 2 (Mo.wantO 58 (Mo.numO 2 (Mo.wantO 58 (Mo.numO 2 (some (bts l))))))) := ⟨_, rfl⟩
 have HOS := Lib.hid hOS
 rw [<- hOS] at st
 clear hOS
 go_wp2_with fail
 refine (ris_o _ _ 90 _ st.rd).mono ?_
 rintro e v10 ⟨x3, rfl, r10, c10, hx10⟩
 replace st := st.call (o' := Mo.hasO 90 (OS)) c10 r10
 have HX3 : Hid (Mo.isHas 90 (OS) x3) := Lib.hid hx10
 clear hx10 r10 c10
 go_upto_if 115 with fail
 go_cut [] (fun W => ∃ (zb : Bool) (zo : Int) (oF : Mo.Ob), SD w W W2.heap.size W3.heap.size ⟨2, 0, 0, 0, (h1 : Int), (i1 : Int), false, ⟨#[]⟩, 0, zb, zo⟩ (oF) /\ Hid ((∀ z, (OS).bind Mo.zoneP = some z -> z = (zb, zo)) /\ (((OS).bind Mo.zoneP).isSome = true ↔ oF = some [])))
 case first =>
  cases x3 with
  | true =>
   go_wp2_with (refine wl_storeC st.mo rfl _ _ rfl rfl rfl rfl (by kernel_rfl) (Nat.le_of_ble_eq_true rfl) rfl (fun W7 b7 hg => ?_); replace st := st.store (y := ⟨2, 0, 0, 0, (h1 : Int), (i1 : Int), false, ⟨#[]⟩, 0, true, 0⟩) b7 hg; clear hg b7)
   go_meet
   case rel => exact ⟨true, 0, _, st, Lib.hid (Mo.zone_Z HX3.out)⟩
  | false =>
   obtain ⟨s0, q0, hb0, hs0, hl0⟩ := st.rd
   have c0 := hb0.c0
   have HL0 := Lib.hid hl0
   clear hl0
   by_cases h0 : s0.size = 0
   ·have he := isEmpty_yes h0
    have he2 : (!s0.toList.isEmpty) = false := by rw [he]; rfl
    have hz := Lib.hid (Mo.zone_none HX3.out (fun l' h => by
     have hl := HL0.out
     rw [h] at hl
     rw [<- hl.2, bts_none h0]))
    clear HL0 h0
    go_wp2
    go_meet
    case rel => exact ⟨false, 0, _, st, hz⟩
   ·have hp : 0 < s0.size := by omega
    have he := isEmpty_no hp
    have he2 : (!s0.toList.isEmpty) = true := by rw [he]; rfl
    have hn : Hid (∀ l', Mo.hasO 90 (OS) = some l' -> l' ≠ []) := Lib.hid (fun l' h => by
     have hl := HL0.out
     rw [h] at hl
     rw [<- hl.2, bts_head hp]
     exact List.cons_ne_nil _ _)
    clear HL0 h0 hp
    go_upto_region 33 with (refine wl_storeC st.mo rfl _ _ rfl rfl rfl rfl (by kernel_rfl) (Nat.le_of_ble_eq_true rfl) rfl (fun W7 b7 hg => ?_); clear c0 hb0; replace st := st.store (y := ⟨2, 0, 0, 0, (h1 : Int), (i1 : Int), false, ⟨#[]⟩, 0, true, 0⟩) b7 hg; clear hg b7)
    go_wp2_with fail
    refine (ris_o _ _ 45 _ st.rd).mono ?_
    rintro e v12 ⟨x4, rfl, r12, c12, hx12⟩
    replace st := st.call (o' := Mo.hasO 45 (Mo.hasO 90 (OS))) c12 r12
    have HX4 : Hid (Mo.isHas 45 (Mo.hasO 90 (OS)) x4) := Lib.hid hx12
    clear hx12 r12 c12
    cases x4 with
    | true =>
     go_wp2_with fail
     refine (rnumber_o _ _ 2 (by decide) _ st.rd).mono ?_
     rintro e v13 ⟨h2, rfl, hl_h2, r13, c13, hv13⟩
     replace st := st.call (o' := Mo.numO 2 (Mo.hasO 45 (Mo.hasO 90 (OS)))) c13 r13
     have HH2 : Hid (Mo.isNum 2 ((Mo.hasO 45 (Mo.hasO 90 (OS)))) h2) := Lib.hid hv13
     clear hv13 r13 c13
     go_wp2_with fail
     refine (rwant_o _ _ 58 _ st.rd).mono ?_
     rintro e v14 ⟨rfl, r14, c14⟩
     replace st := st.call (o' := Mo.wantO 58 (Mo.numO 2 (Mo.hasO 45 (Mo.hasO 90 (OS))))) c14 r14
     clear r14 c14
     go_wp2_with fail
     refine (rnumber_o _ _ 2 (by decide) _ st.rd).mono ?_
     rintro e v15 ⟨i2, rfl, hl_i2, r15, c15, hv15⟩
     replace st := st.call (o' := Mo.tailO (Mo.hasO 45 (Mo.hasO 90 (OS)))) c15 r15
     have HI2 : Hid (Mo.isNum 2 (Mo.wantO 58 (Mo.numO 2 (Mo.hasO 45 (Mo.hasO 90 (OS))))) i2) := Lib.hid hv15
     clear hv15 r15 c15
     have hz := Lib.hid (Mo.zone_minus HX3.out hn.out HX4.out HH2.out HI2.out)
     clear hn HX3 HX4 HH2 HI2
     obtain ⟨z, hzz⟩ : ∃ z : Int, z = -(60 * (h2 : Int) + (i2 : Int)) := ⟨_, rfl⟩
     have e60 : (h2 : Int) * 60 + (i2 : Int) = -z := by omega
     have z0 : -1000000 <= z := by omega
     have z1 : z <= 1000000 := by omega
     rw [<- hzz] at hz
     clear hzz
     go_upto_region 40 with (refine wl_storeC st.mo rfl _ _ rfl rfl rfl rfl (by kernel_rfl) (Nat.le_of_ble_eq_true rfl) rfl (fun W7 b7 hg => ?_); replace st := st.store (y := ⟨2, 0, 0, 0, (h1 : Int), (i1 : Int), false, ⟨#[]⟩, 0, true, z⟩) b7 hg; clear hg b7)
     obtain ⟨s5, q5, hb5, hs5, hl5⟩ := st.rd
     have c1 := hb5.c1
     have f1 := hb5.f0 1
     have HL5 := Lib.hid hl5
     clear hl5 e60
     cases q5 with
     | true =>
      have st2 := Lib.hid (st.mark hb5 (o' := none) (b := true) ⟨hs5, rfl⟩)
      have hbad : Hid (Mo.tailO (Mo.hasO 45 (Mo.hasO 90 (OS))) = none) := Lib.hid (by
       have hl := HL5.out
       cases hO : Mo.tailO (Mo.hasO 45 (Mo.hasO 90 (OS))) with
       | none => rfl
       | some l' => rw [hO] at hl; cases hl.1)
      clear st hb5 HL5
      go_wp2
      go_meet
      case rel => exact ⟨true, z, none, st2.out, Lib.hid ⟨hz.out.1, by rw [hz.out.2, hbad.out]; simp⟩⟩
     | false =>
      by_cases hm : 59 < i2
      ·have g1 : decide ((59 : Int) < (i2 : Int)) = true := decide_eq_true (by omega)
       have st2 := Lib.hid (st.mark hb5 (o' := none) (b := true) ⟨hs5, rfl⟩)
       have hm2 : Hid (59 < i2) := Lib.hid hm
       clear st hb5 HL5 hm
       go_wp2
       go_meet
       case rel => exact ⟨true, z, none, st2.out, Lib.hid ⟨hz.out.1, by
        rw [hz.out.2]
        constructor
        ·intro h; have := hm2.out; omega
        ·intro h; cases h⟩⟩
      ·have g1 : decide ((59 : Int) < (i2 : Int)) = false := decide_eq_false (by omega)
       have st2 := Lib.hid (st.mark hb5 (o' := Mo.tailO (Mo.hasO 45 (Mo.hasO 90 (OS)))) (b := false) ⟨hs5, HL5.out⟩)
       have hm2 : Hid (i2 <= 59) := Lib.hid (by omega)
       clear st hb5 HL5 hm
       go_wp2
       go_meet
       case rel => exact ⟨true, z, _, st2.out, Lib.hid ⟨hz.out.1, by
        rw [hz.out.2]
        exact ⟨fun h => h.2, fun h => ⟨hm2.out, h⟩⟩⟩⟩
    | false =>
     go_wp2_with fail
     refine (rwant_o _ _ 43 _ st.rd).mono ?_
     rintro e v16 ⟨rfl, r16, c16⟩
     replace st := st.call (o' := Mo.wantO 43 (Mo.hasO 45 (Mo.hasO 90 (OS)))) c16 r16
     clear r16 c16
     go_wp2_with fail
     refine (rnumber_o _ _ 2 (by decide) _ st.rd).mono ?_
     rintro e v17 ⟨h2, rfl, hl_h2, r17, c17, hv17⟩
     replace st := st.call (o' := Mo.numO 2 (Mo.wantO 43 (Mo.hasO 45 (Mo.hasO 90 (OS))))) c17 r17
     have HH2 : Hid (Mo.isNum 2 ((Mo.wantO 43 (Mo.hasO 45 (Mo.hasO 90 (OS))))) h2) := Lib.hid hv17
     clear hv17 r17 c17
     go_wp2_with fail
     refine (rwant_o _ _ 58 _ st.rd).mono ?_
     rintro e v18 ⟨rfl, r18, c18⟩
     replace st := st.call (o' := Mo.wantO 58 (Mo.numO 2 (Mo.wantO 43 (Mo.hasO 45 (Mo.hasO 90 (OS)))))) c18 r18
     clear r18 c18
     go_wp2_with fail
     refine (rnumber_o _ _ 2 (by decide) _ st.rd).mono ?_
     rintro e v19 ⟨i2, rfl, hl_i2, r19, c19, hv19⟩
     replace st := st.call (o' := Mo.tailO (Mo.wantO 43 (Mo.hasO 45 (Mo.hasO 90 (OS))))) c19 r19
     have HI2 : Hid (Mo.isNum 2 (Mo.wantO 58 (Mo.numO 2 (Mo.wantO 43 (Mo.hasO 45 (Mo.hasO 90 (OS)))))) i2) := Lib.hid hv19
     clear hv19 r19 c19
     have hz := Lib.hid (Mo.zone_plus HX3.out hn.out HX4.out HH2.out HI2.out)
     clear hn HX3 HX4 HH2 HI2
     obtain ⟨z, hzz⟩ : ∃ z : Int, z = (60 * (h2 : Int) + (i2 : Int)) := ⟨_, rfl⟩
     have e60 : (h2 : Int) * 60 + (i2 : Int) = z := by omega
     have z0 : -1000000 <= z := by omega
     have z1 : z <= 1000000 := by omega
     rw [<- hzz] at hz
     clear hzz
     go_upto_region 40 with (refine wl_storeC st.mo rfl _ _ rfl rfl rfl rfl (by kernel_rfl) (Nat.le_of_ble_eq_true rfl) rfl (fun W7 b7 hg => ?_); replace st := st.store (y := ⟨2, 0, 0, 0, (h1 : Int), (i1 : Int), false, ⟨#[]⟩, 0, true, z⟩) b7 hg; clear hg b7)
     obtain ⟨s5, q5, hb5, hs5, hl5⟩ := st.rd
     have c1 := hb5.c1
     have f1 := hb5.f0 1
     have HL5 := Lib.hid hl5
     clear hl5 e60
     cases q5 with
     | true =>
      have st2 := Lib.hid (st.mark hb5 (o' := none) (b := true) ⟨hs5, rfl⟩)
      have hbad : Hid (Mo.tailO (Mo.wantO 43 (Mo.hasO 45 (Mo.hasO 90 (OS)))) = none) := Lib.hid (by
       have hl := HL5.out
       cases hO : Mo.tailO (Mo.wantO 43 (Mo.hasO 45 (Mo.hasO 90 (OS)))) with
       | none => rfl
       | some l' => rw [hO] at hl; cases hl.1)
      clear st hb5 HL5
      go_wp2
      go_meet
      case rel => exact ⟨true, z, none, st2.out, Lib.hid ⟨hz.out.1, by rw [hz.out.2, hbad.out]; simp⟩⟩
     | false =>
      by_cases hm : 59 < i2
      ·have g1 : decide ((59 : Int) < (i2 : Int)) = true := decide_eq_true (by omega)
       have st2 := Lib.hid (st.mark hb5 (o' := none) (b := true) ⟨hs5, rfl⟩)
       have hm2 : Hid (59 < i2) := Lib.hid hm
       clear st hb5 HL5 hm
       go_wp2
       go_meet
       case rel => exact ⟨true, z, none, st2.out, Lib.hid ⟨hz.out.1, by
        rw [hz.out.2]
        constructor
        ·intro h; have := hm2.out; omega
        ·intro h; cases h⟩⟩
      ·have g1 : decide ((59 : Int) < (i2 : Int)) = false := decide_eq_false (by omega)
       have st2 := Lib.hid (st.mark hb5 (o' := Mo.tailO (Mo.wantO 43 (Mo.hasO 45 (Mo.hasO 90 (OS))))) (b := false) ⟨hs5, HL5.out⟩)
       have hm2 : Hid (i2 <= 59) := Lib.hid (by omega)
       clear st hb5 HL5 hm
       go_wp2
       go_meet
       case rel => exact ⟨true, z, _, st2.out, Lib.hid ⟨hz.out.1, by
        rw [hz.out.2]
        exact ⟨fun h => h.2, fun h => ⟨hm2.out, h⟩⟩⟩⟩
 case rest =>
 clear st
 obtain ⟨zb, zo, oF, st, hz⟩ := hcut
 have HP := Lib.hid (Mo.parts2 HTT.out HOS.out HSS.out hz.out.1)
 obtain ⟨s6, q6, hb6, hs6, hl6⟩ := st.rd
 have c0 := hb6.c0
 have c1 := hb6.c1
 have HL6 := Lib.hid hl6
 clear hl6
 by_cases hbad : q6 = true \/ s6.size ≠ 0
 ·have hR : Hid (Mo.readM 2 (bts l) = (Mo.nil, 6)) := Lib.hid (by
   have h : (OS).bind Mo.zoneP = none := by
    cases hh : (OS).bind Mo.zoneP with
    | none => rfl
    | some z =>
     exfalso
     have e := hz.out.2.1 (by rw [hh]; rfl)
     have hl := HL6.out
     rw [e] at hl
     rcases hbad with h | h
     ·rw [hl.1] at h; cases h
     ·exact h (by rw [<- bts_length, hl.2]; rfl)
   exact HP.out.1 h)
  clear HL6 HP hz
  cases q6 with
  | true =>
   go_wp2_with (refine wl_storeA st.res rfl _ _ rfl rfl rfl (by kernel_rfl) rfl rfl rfl (fun W8 b8 hg => ?_); have hB8 := below_far st.bel st.bel.size (Nat.le_refl _) hg; clear hg)
   exact bodyPost_ret (res_cell_tmp rfl b8 (by kernel_rfl) rfl rfl) rfl ⟨by rw [hR.out]; rfl, hB8⟩
  | false =>
   have hp : 0 < s6.size := by
    rcases hbad with h | h
    ·cases h
    ·omega
   have he := isEmpty_no hp
   have he2 : (!s6.toList.isEmpty) = true := by rw [he]; rfl
   clear hbad
   go_wp2_with (refine wl_storeA st.res rfl _ _ rfl rfl rfl (by kernel_rfl) rfl rfl rfl (fun W8 b8 hg => ?_); have hB8 := below_far st.bel st.bel.size (Nat.le_refl _) hg; clear hg)
   exact bodyPost_ret (res_cell_tmp rfl b8 (by kernel_rfl) rfl rfl) rfl ⟨by rw [hR.out]; rfl, hB8⟩
 ·simp only [not_or, Classical.not_not] at hbad
  obtain ⟨hq, h0⟩ := hbad
  have hq : q6 = false := by simpa using hq
  subst hq
  have he := isEmpty_yes h0
  have he2 : (!s6.toList.isEmpty) = false := by rw [he]; rfl
  have hR : Hid (Mo.partsP 2 (bts l) = some (⟨2, 0, 0, 0, (h1 : Int), (i1 : Int), false, ⟨#[]⟩, 0, zb, zo⟩, bts t)) := Lib.hid (by
   have e : oF = some [] := by
    have hl := HL6.out
    cases oF with
    | none => cases hl
    | some l' => rw [<- hl.2, bts_none h0]
   have h := hz.out.2.2 e
   exact HP.out.2 h)
  clear HL6 HP hz h0
  have hbel : Hid (Below w.heap.size w _) := Lib.hid st.bel
  obtain ⟨rr, hrr⟩ : ∃ rr, readR (bts t) = rr := ⟨_, rfl⟩
  have HRR := Lib.hid hrr
  have hrs := Lib.hid (readR_small hrr)
  have CR := Lib.hid (rread_is t htl rr hrr)
  clear hrr
  by_cases hk : rr.k = 0
  ·have g1 : (rr.k != 0) = false := by rw [hk]; rfl
   cases hok : Mo.okB (Mo.withS ⟨2, 0, 0, 0, (h1 : Int), (i1 : Int), false, ⟨#[]⟩, 0, zb, zo⟩ rr) with
   | true =>
    have hE : Hid (Mo.readM 2 (bts l) = ((Mo.withS ⟨2, 0, 0, 0, (h1 : Int), (i1 : Int), false, ⟨#[]⟩, 0, zb, zo⟩ rr), 0)) := Lib.hid (by unfold Mo.readM; rw [if_pos (by decide), hR.out]; show Mo.doneM 2 _ = _; unfold Mo.doneM; rw [if_neg (by decide)]; simp only [HRR.out]; rw [if_neg (by rw [hk]; decide), if_pos hok])
    clear hR HRR hk
    go_wp2_with (first
     | (go_at_call 58; refine (rtimed2 _).mono ?_; rintro e w1 ⟨rfl, rfl⟩)
     | (go_at_call 63; refine (CR.out _).mono ?_; rintro e w5 ⟨rfl, hb⟩; replace st := st.pass hb; clear hb)
     | (refine wl_allocA rfl zero_dec rfl (fun W6 b6 hb => ?_); have hlt := st.mo.lt; replace st := st.pass hb; clear hb)
     | (refine wl_storeA b6 rfl _ _ rfl rfl rfl (by kernel_rfl) rfl rfl rfl (fun W7 b7 hg => ?_); replace st := st.stray hg hlt; clear hg b6)
     | (refine wl_loadA b7 rfl (by kernel_rfl) _ rfl rfl ?_)
     | (refine wl_storeM st.mo rfl _ _ rfl rfl rfl (by kernel_rfl) (Nat.le_of_ble_eq_true rfl) rfl rfl (fun W9 b9 hg => ?_); replace st := st.store (y := (Mo.withS ⟨2, 0, 0, 0, (h1 : Int), (i1 : Int), false, ⟨#[]⟩, 0, zb, zo⟩ rr)) b9 hg; clear hg b9 b7)
     | (refine wl_loadA st.mo rfl (by kernel_rfl) _ rfl rfl ?_)
     | (go_at_call 40; refine (rcheckm_is (Mo.withS ⟨2, 0, 0, 0, (h1 : Int), (i1 : Int), false, ⟨#[]⟩, 0, zb, zo⟩ rr) hrs.out _ M (hV.next st.bel)).mono ?_; rw [hok]; rintro e w5 ⟨rfl, hb⟩; replace st := st.pass hb; clear hb)
     | (refine wl_storeA st.res rfl _ _ rfl rfl rfl (by kernel_rfl) rfl rfl rfl (fun W8 b8 hg => ?_); have hB8 := below_far st.bel st.bel.size (Nat.le_refl _) hg; clear hg))
    exact bodyPost_ret (res_cell_tmp rfl b8 (by kernel_rfl) rfl rfl) rfl ⟨by rw [hE.out]; rfl, hB8⟩
   | false =>
    have hE : Hid (Mo.readM 2 (bts l) = (Mo.nil, 6)) := Lib.hid (by unfold Mo.readM; rw [if_pos (by decide), hR.out]; show Mo.doneM 2 _ = _; unfold Mo.doneM; rw [if_neg (by decide)]; simp only [HRR.out]; rw [if_neg (by rw [hk]; decide), if_neg (by rw [hok]; decide)])
    clear hR HRR hk
    go_wp2_with (first
     | (go_at_call 58; refine (rtimed2 _).mono ?_; rintro e w1 ⟨rfl, rfl⟩)
     | (go_at_call 63; refine (CR.out _).mono ?_; rintro e w5 ⟨rfl, hb⟩; replace st := st.pass hb; clear hb)
     | (refine wl_allocA rfl zero_dec rfl (fun W6 b6 hb => ?_); have hlt := st.mo.lt; replace st := st.pass hb; clear hb)
     | (refine wl_storeA b6 rfl _ _ rfl rfl rfl (by kernel_rfl) rfl rfl rfl (fun W7 b7 hg => ?_); replace st := st.stray hg hlt; clear hg b6)
     | (refine wl_loadA b7 rfl (by kernel_rfl) _ rfl rfl ?_)
     | (refine wl_storeM st.mo rfl _ _ rfl rfl rfl (by kernel_rfl) (Nat.le_of_ble_eq_true rfl) rfl rfl (fun W9 b9 hg => ?_); replace st := st.store (y := (Mo.withS ⟨2, 0, 0, 0, (h1 : Int), (i1 : Int), false, ⟨#[]⟩, 0, zb, zo⟩ rr)) b9 hg; clear hg b9 b7)
     | (refine wl_loadA st.mo rfl (by kernel_rfl) _ rfl rfl ?_)
     | (go_at_call 40; refine (rcheckm_is (Mo.withS ⟨2, 0, 0, 0, (h1 : Int), (i1 : Int), false, ⟨#[]⟩, 0, zb, zo⟩ rr) hrs.out _ M (hV.next st.bel)).mono ?_; rw [hok]; rintro e w5 ⟨rfl, hb⟩; replace st := st.pass hb; clear hb)
     | (refine wl_storeA st.res rfl _ _ rfl rfl rfl (by kernel_rfl) rfl rfl rfl (fun W8 b8 hg => ?_); have hB8 := below_far st.bel st.bel.size (Nat.le_refl _) hg; clear hg))
    exact bodyPost_ret (res_cell_tmp rfl b8 (by kernel_rfl) rfl rfl) rfl ⟨by rw [hE.out]; rfl, hB8⟩
  ·have g1 : (rr.k != 0) = true := bne_iff_ne.2 hk
   have hE : Hid (Mo.readM 2 (bts l) = (Mo.nil, rr.k)) := Lib.hid (by unfold Mo.readM; rw [if_pos (by decide), hR.out]; show Mo.doneM 2 _ = _; unfold Mo.doneM; rw [if_neg (by decide)]; simp only [HRR.out]; rw [if_pos hk])
   clear hR HRR hk
   go_wp2_with (first
    | (go_at_call 58; refine (rtimed2 _).mono ?_; rintro e w1 ⟨rfl, rfl⟩)
    | (go_at_call 63; refine (CR.out _).mono ?_; rintro e w5 ⟨rfl, hb⟩; replace st := st.pass hb; clear hb)
    | (refine wl_allocA rfl zero_dec rfl (fun W6 b6 hb => ?_); have hlt := st.mo.lt; replace st := st.pass hb; clear hb)
    | (refine wl_storeA b6 rfl _ _ rfl rfl rfl (by kernel_rfl) rfl rfl rfl (fun W7 b7 hg => ?_); replace st := st.stray hg hlt; clear hg b6)
    | (refine wl_storeA st.res rfl _ _ rfl rfl rfl (by kernel_rfl) rfl rfl rfl (fun W8 b8 hg => ?_); have hB8 := below_far st.bel st.bel.size (Nat.le_refl _) hg; clear hg))
   exact bodyPost_ret (res_cell_tmp rfl b8 (by kernel_rfl) rfl rfl) rfl ⟨by rw [hE.out]; rfl, hB8⟩
end Go.Proofs.YthoojcdjjecogaaGreatDoor
