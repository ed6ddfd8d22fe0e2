/-
  Part 31 of the proof: what functions return, and plain facts (Mrread). Conditions: each theorem names its own.
-/
import Derived.Test.YthoojcdjjecogaaGreatDoorG22
import Derived.Test.YthoojcdjjecogaaGreatDoorG13
import Derived.Test.YthoojcdjjecogaaGreatDoorG20
set_option maxRecDepth 1000000
set_option maxHeartbeats 16000000
namespace Go.Proofs.YthoojcdjjecogaaGreatDoor
open Go Go.RowKit

theorem zero_mo : (Tryz.prog.info? 26).bind (·.zero) = some (.agg Mo.nil.list.toArray) := by kernel_rfl
structure SD (w0 w : World) (r m : Nat) (x : Mo) (o : Mo.Ob) : Prop where
 res : Blk w w0.heap.size 26 Mo.nil.list.toArray
 rd : RdO w r o
 mo : Blk w m 26 x.list.toArray
 lo : w0.heap.size < r
 rm : r < m
 bel : Below w0.heap.size w0 w
section
variable {w0 w w' : World} {r m : Nat} {x y : Mo} {o o' : Mo.Ob}
theorem SD.call (h : SD w0 w r m x o) (hc : Ch [r] w w') (hr : RdO w' r o') : SD w0 w' r m x o' :=
 ⟨hc.blk h.res (by have := h.lo; simp; omega), hr, hc.blk h.mo (by have := h.rm; simp; omega), h.lo, h.rm, h.bel.trans (hc.below h.bel.size (fun k hk => by have := h.lo; simp at hk; omega))⟩
theorem SD.store (h : SD w0 w r m x o) (hb : Blk w' m 26 y.list.toArray) (hg : w.grownBy w' (some m)) : SD w0 w' r m y o :=
 ⟨h.res.far hg (by have := h.lo; have := h.rm; omega), h.rd.ch (Ch.ofGrown (S := [m]) hg (by simp)) (by have := h.rm; simp; omega), hb, h.lo, h.rm, below_far h.bel h.bel.size (by have := h.lo; have := h.rm; omega) hg⟩
theorem SD.pass (h : SD w0 w r m x o) (hb : Below w.heap.size w w') : SD w0 w' r m x o :=
 ⟨h.res.keep hb, h.rd.ch (Ch.ofBelow (S := []) hb) (by simp), h.mo.keep hb, h.lo, h.rm, below_step h.bel hb⟩
end
theorem rdated1 (w : World) : Calls Tryz.prog 57 #[.int .i64 1] w fun e w' => e = .returned (.bool true) /\ w = w' := by
 go_enter Tryz.func57, Tryz.ntmps57
 go_wp2
 go_ret
 exact ⟨rfl, rfl⟩
theorem rtimed1 (w : World) : Calls Tryz.prog 58 #[.int .i64 1] w fun e w' => e = .returned (.bool false) /\ w = w' := by
 go_enter Tryz.func58, Tryz.ntmps58
 go_wp2
 go_ret
 exact ⟨rfl, rfl⟩
theorem rdated2 (w : World) : Calls Tryz.prog 57 #[.int .i64 2] w fun e w' => e = .returned (.bool false) /\ w = w' := by
 go_enter Tryz.func57, Tryz.ntmps57
 go_wp2
 go_ret
 exact ⟨rfl, rfl⟩
theorem rtimed2 (w : World) : Calls Tryz.prog 58 #[.int .i64 2] w fun e w' => e = .returned (.bool true) /\ w = w' := by
 go_enter Tryz.func58, Tryz.ntmps58
 go_wp2
 go_ret
 exact ⟨rfl, rfl⟩
theorem rdated3 (w : World) : Calls Tryz.prog 57 #[.int .i64 3] w fun e w' => e = .returned (.bool true) /\ w = w' := by
 go_enter Tryz.func57, Tryz.ntmps57
 go_wp2
 go_ret
 exact ⟨rfl, rfl⟩
theorem rtimed3 (w : World) : Calls Tryz.prog 58 #[.int .i64 3] w fun e w' => e = .returned (.bool true) /\ w = w' := by
 go_enter Tryz.func58, Tryz.ntmps58
 go_wp2
 go_ret
 exact ⟨rfl, rfl⟩
theorem Mo.zone_minus {o : Mo.Ob} {h m : Nat} (hx : Mo.isHas 90 o false) (hn : ∀ l, Mo.hasO 90 o = some l -> l ≠ []) (hy : Mo.isHas 45 (Mo.hasO 90 o) true) (hh : Mo.isNum 2 (Mo.hasO 45 (Mo.hasO 90 o)) h) (hm : Mo.isNum 2 (Mo.wantO 58 (Mo.numO 2 (Mo.hasO 45 (Mo.hasO 90 o)))) m) :
  (∀ z, o.bind Mo.zoneP = some z -> z = (true, -(60 * (h : Int) + (m : Int)))) /\ ((o.bind Mo.zoneP).isSome = true ↔ (m <= 59 /\ Mo.tailO (Mo.hasO 45 (Mo.hasO 90 o)) = some [])) := by
 have := Mo.zone_sign (y := true) hx hn hy hh hm
 simpa using this
theorem Mo.zone_plus {o : Mo.Ob} {h m : Nat} (hx : Mo.isHas 90 o false) (hn : ∀ l, Mo.hasO 90 o = some l -> l ≠ []) (hy : Mo.isHas 45 (Mo.hasO 90 o) false) (hh : Mo.isNum 2 (Mo.wantO 43 (Mo.hasO 45 (Mo.hasO 90 o))) h) (hm : Mo.isNum 2 (Mo.wantO 58 (Mo.numO 2 (Mo.wantO 43 (Mo.hasO 45 (Mo.hasO 90 o))))) m) :
  (∀ z, o.bind Mo.zoneP = some z -> z = (true, 60 * (h : Int) + (m : Int))) /\ ((o.bind Mo.zoneP).isSome = true ↔ (m <= 59 /\ Mo.tailO (Mo.wantO 43 (Mo.hasO 45 (Mo.hasO 90 o))) = some [])) := by
 have := Mo.zone_sign (y := false) hx hn hy hh hm
 simpa using this
theorem SD.as {w0 w : World} {r m : Nat} {x : Mo} {o o' : Mo.Ob} (h : SD w0 w r m x o) (e : o = o') : SD w0 w r m x o' := e ▸ h
theorem SD.mark {w0 w : World} {r m : Nat} {x : Mo} {o o' : Mo.Ob} {s : ByteArray} {q b : Bool} (h : SD w0 w r m x o) (hb : RR w r s q) (hl : Left o' s b) : SD w0 (w.setCell ⟨r, 1, none⟩ (.bool b)) r m x o' :=
 h.call ((Ch.refl _ _).set (by simp) _ _) ⟨s, b, hb.mark b, hl⟩
theorem SD.stray {w0 w w' : World} {r m g : Nat} {x : Mo} {o : Mo.Ob} (h : SD w0 w r m x o) (hg : w.grownBy w' (some g)) (hgm : m < g) : SD w0 w' r m x o :=
 ⟨h.res.far hg (by have := h.lo; have := h.rm; omega), h.rd.ch (Ch.ofGrown (S := [g]) hg (by simp)) (by have := h.rm; simp; omega), h.mo.far hg (by omega), h.lo, h.rm, below_far h.bel h.bel.size (by have := h.lo; have := h.rm; omega) hg⟩
theorem readR_small {l : List Nat} {r : Res} (h : readR l = r) : r.s.size <= 1000000 := by
 rw [<- h]
 unfold readR
 cases hd : Dc.readD l with
 | none => exact Nat.zero_le _
 | some o =>
  unfold Dc.readD at hd
  split at hd
  ·cases hd
   show (resOf _).s.size <= _
   cases hc : Dc.can (Dc.unsign l).1 (Dc.val (Dc.whole (Dc.unsign l).2 ++ Dc.part (Dc.unsign l).2)) (Dc.part (Dc.unsign l).2).length with
   | none => exact Nat.zero_le _
   | some a =>
    obtain ⟨n, v, S⟩ := a
    have := (Dc.can_is hc).1.1
    show (str (Dc.digs v)).size <= _
    rw [str_size]; omega
  ·cases hd
namespace Mo
theorem run_split {l : List Nat} {j : Nat} (h1 : (l.take j).all Dc.dig = true) (h2 : ∀ c r, l.drop j = c :: r -> Dc.dig c = false) : runD l = l.take j /\ runR l = l.drop j := by
 have h : ∀ c ∈ l.take j, Dc.dig c = true := List.all_eq_true.1 h1
 have e : l = l.take j ++ l.drop j := (List.take_append_drop j l).symm
 have a : (l.drop j).takeWhile Dc.dig = [] /\ (l.drop j).dropWhile Dc.dig = l.drop j := by
  cases hd : l.drop j with
  | nil => exact ⟨rfl, rfl⟩
  | cons c r => simp [h2 c r hd]
 unfold runD runR
 constructor
 ·conv => lhs; rw [e]
  rw [List.takeWhile_append_of_pos h, a.1, List.append_nil]
 ·conv => lhs; rw [e]
  rw [List.dropWhile_append_of_pos h, a.2]
theorem parts1 {l : List Nat} {OD : Ob} {y m d : Int} {zb : Bool} {zo : Int} (hO : OD = dateO (some l)) (hd : dateO (some l) = ((some l).bind dateP).map Prod.snd /\ ∀ r, (some l).bind dateP = some r -> r.1 = (y, m, d)) (hz : ∀ z, OD.bind zoneP = some z -> z = (zb, zo)) :
  (OD.bind zoneP = none -> readM 1 l = (nil, 6)) /\ ((OD.bind zoneP).isSome = true -> partsP 1 l = some (⟨1, y, m, d, 0, 0, false, ⟨#[]⟩, 0, zb, zo⟩, [])) := by
 obtain ⟨e1, e2⟩ := hd
 rw [hO, e1] at hz ⊢
 simp only [Option.bind_some] at hz e2 ⊢
 have key : partsP 1 l = ((dateP l).map Prod.snd).bind fun l1 => (zoneP l1).bind fun z => some (⟨1, y, m, d, 0, 0, false, ⟨#[]⟩, 0, z.1, z.2⟩, []) := by
  unfold partsP
  rw [if_neg (by decide)]
  cases hp : dateP l with
  | none => rfl
  | some r =>
   have := e2 r hp
   simp only [Option.bind_some, Option.map_some, if_neg (show ¬ (1 : Int) = 3 by decide), if_true, this]
 constructor
 ·intro h
  have : partsP 1 l = none := by
   rw [key]
   cases hp : (dateP l).map Prod.snd with
   | none => rfl
   | some r => rw [hp] at h; rw [Option.bind_some] at h ⊢; rw [h]; rfl
  unfold readM; rw [if_pos (by decide), this]
 ·intro h
  rw [key]
  cases hp : (dateP l).map Prod.snd with
  | none => rw [hp] at h; cases h
  | some r =>
   rw [hp] at h hz
   rw [Option.bind_some] at h hz ⊢
   cases hq : zoneP r with
   | none => rw [hq] at h; cases h
   | some z => rw [hz z hq]; rfl
theorem parts_time {k : Int} {l : List Nat} {O0 OS : Ob} {dt : Int × Int × Int} {h i : Int} {t S : List Nat} {zb : Bool} {zo : Int} (hk : k = 2 \/ k = 3)
  (key : partsP k l = (O0.bind timeP).bind fun q => (zoneP q.2).bind fun z => some (⟨k, dt.1, dt.2.1, dt.2.2, q.1.1, q.1.2.1, false, ⟨#[]⟩, 0, z.1, z.2⟩, q.1.2.2))
  (e1 : OS = (O0.bind timeP).map Prod.snd) (e2 : ∀ r, O0.bind timeP = some r -> r.1 = (h, i, S)) (e3 : ∀ l', OS = some l' -> t = S) (hz : ∀ z, OS.bind zoneP = some z -> z = (zb, zo)) :
  (OS.bind zoneP = none -> readM k l = (nil, 6)) /\ ((OS.bind zoneP).isSome = true -> partsP k l = some (⟨k, dt.1, dt.2.1, dt.2.2, h, i, false, ⟨#[]⟩, 0, zb, zo⟩, t)) := by
 rw [e1] at e3 hz ⊢
 constructor
 ·intro hn
  have : partsP k l = none := by
   rw [key]
   cases hp : O0.bind timeP with
   | none => rfl
   | some r => rw [hp] at hn; rw [Option.map_some, Option.bind_some] at hn; rw [Option.bind_some, hn]; rfl
  unfold readM; rw [if_pos (by omega), this]
 ·intro hn
  rw [key]
  cases hp : O0.bind timeP with
  | none => rw [hp] at hn; cases hn
  | some r =>
   rw [hp] at hn hz e3
   have e4 := e2 r hp
   have e5 := e3 r.2 rfl
   rw [Option.map_some, Option.bind_some] at hn hz
   rw [Option.bind_some]
   cases hq : zoneP r.2 with
   | none => rw [hq] at hn; cases hn
   | some z => rw [hz z hq, e4, e5]; rfl
theorem parts2 {l : List Nat} {OS : Ob} {h i : Int} {t S : List Nat} {o : Ob} {zb : Bool} {zo : Int} (ht : o = ((some l).bind timeP).map Prod.snd /\ ∀ r, (some l).bind timeP = some r -> r.1 = (h, i, S)) (hO : OS = o) (e3 : ∀ l', o = some l' -> t = S) (hz : ∀ z, OS.bind zoneP = some z -> z = (zb, zo)) :
  (OS.bind zoneP = none -> readM 2 l = (nil, 6)) /\ ((OS.bind zoneP).isSome = true -> partsP 2 l = some (⟨2, 0, 0, 0, h, i, false, ⟨#[]⟩, 0, zb, zo⟩, t)) := by
 refine parts_time (O0 := some l) (dt := (0, 0, 0)) (.inl rfl) ?_ (hO.trans ht.1) ht.2 (fun l' h => e3 l' (hO ▸ h)) hz
 unfold partsP
 rw [if_pos rfl]
 simp only [Option.bind_some, if_neg (show ¬ (2 : Int) = 3 by decide), if_neg (show ¬ (2 : Int) = 1 by decide)]
theorem parts3 {l : List Nat} {OD OS : Ob} {y m d : Int} {h i : Int} {t S : List Nat} {o : Ob} {zb : Bool} {zo : Int} (hO : OD = dateO (some l)) (hd : dateO (some l) = ((some l).bind dateP).map Prod.snd /\ ∀ r, (some l).bind dateP = some r -> r.1 = (y, m, d))
  (ht : o = ((wantO 84 OD).bind timeP).map Prod.snd /\ ∀ r, (wantO 84 OD).bind timeP = some r -> r.1 = (h, i, S)) (hO2 : OS = o) (e3 : ∀ l', o = some l' -> t = S) (hz : ∀ z, OS.bind zoneP = some z -> z = (zb, zo)) :
  (OS.bind zoneP = none -> readM 3 l = (nil, 6)) /\ ((OS.bind zoneP).isSome = true -> partsP 3 l = some (⟨3, y, m, d, h, i, false, ⟨#[]⟩, 0, zb, zo⟩, t)) := by
 refine parts_time (O0 := wantO 84 OD) (dt := (y, m, d)) (.inr rfl) ?_ (hO2.trans ht.1) ht.2 (fun l' h => e3 l' (hO2 ▸ h)) hz
 rw [hO, hd.1]
 unfold partsP wantO
 rw [if_neg (by decide)]
 simp only [Option.bind_some]
 cases hp : dateP l with
 | none => rfl
 | some r =>
  have := hd.2 r hp
  simp only [Option.bind_some, Option.map_some, if_pos, this, if_neg (show ¬ (3 : Int) = 1 by decide)]
  cases wantP 84 r.2 <;> rfl
end Mo
theorem rread1 (l : ByteArray) (hs : l.size <= 300) (w : World) (M : Int) (hV : Vars M w) : Calls Tryz.prog 29 #[.int .i64 1, .string l] w fun e w' => e = .returned (.tuple #[(Mo.readM 1 (bts l)).1.val, .int .i64 (Mo.readM 1 (bts l)).2]) /\ Below w.heap.size w w' := by
 go_enter Tryz.func29, Tryz.ntmps29
 go_upto_region 3 with (first
  | (go_at_call 57; refine (rdated1 _).mono ?_; rintro e w1 ⟨rfl, rfl⟩)
  | (go_at_call 58; refine (rtimed1 _).mono ?_; rintro e w1 ⟨rfl, rfl⟩)
  | (refine wl_allocA rfl zero_mo rfl (fun W2 b2 hb => ?_); have hB := hb; clear hb))
 go_upto_region 4 with (refine wl_boxA rfl (.tmp 25) rfl rfl (fun W3 b3 hb => ?_); have l2 := b2.lt; replace b2 := b2.keep hb; replace hB := below_step hB hb; clear hb)
 go_upto_region 5 with (first
  | (refine wl_allocA rfl zero_mo rfl (fun W4 b4 hb => ?_); have l3 := b3.lt; replace b2 := b2.keep hb; replace b3 := b3.keep hb; replace hB := below_step hB hb; clear hb)
  | (refine wl_storeA b4 rfl _ _ rfl rfl rfl (by kernel_rfl) rfl rfl rfl (fun W5 b5 hg => ?_); have st := (SD.mk (o := some (bts l)) b2 ⟨l, false, b3, hs, rfl, rfl⟩ b4 l2 l3 hB).store (y := ⟨1, 0, 0, 0, 0, 0, false, ⟨#[]⟩, 0, false, 0⟩) b5 hg; clear hg b2 b3 b4 b5 hB))
 go_wp2_with (go_at_call 57; refine (rdated1 _).mono ?_; rintro e w1 ⟨rfl, rfl⟩)
 refine (ris_o _ _ 45 _ st.rd).mono ?_
 rintro e v1 ⟨x1, rfl, r1, c1, hx1⟩
 replace st := st.call (o' := Mo.hasO 45 (some (bts l))) c1 r1
 have HX1 : Hid (Mo.isHas 45 (some (bts l)) x1) := Lib.hid hx1
 clear hx1 r1 c1
 go_wp2_with fail
 refine (rnumber_o _ _ 4 (by decide) _ st.rd).mono ?_
 rintro e v2 ⟨y1, rfl, hl_y1, r2, c2, hv2⟩
 replace st := st.call (o' := Mo.numO 4 (Mo.hasO 45 (some (bts l)))) c2 r2
 have HY1 : Hid (Mo.isNum 4 (Mo.hasO 45 (some (bts l))) y1) := Lib.hid hv2
 clear hv2 r2 c2
 go_upto_region 8 with (refine wl_storeC st.mo rfl _ _ rfl rfl rfl rfl (by kernel_rfl) (Nat.le_of_ble_eq_true rfl) rfl (fun W3s b3 hg => ?_); replace st := st.store (y := ⟨1, (y1 : Int), 0, 0, 0, 0, false, ⟨#[]⟩, 0, false, 0⟩) b3 hg; clear hg b3)
 go_upto_if 36 with fail
 go_cut [] (fun W => SD w W W2.heap.size W3.heap.size ⟨1, (if x1 then -(y1 : Int) else (y1 : Int)), 0, 0, 0, 0, false, ⟨#[]⟩, 0, false, 0⟩ (Mo.numO 4 (Mo.hasO 45 (some (bts l)))))
 case first =>
  cases x1 with
  | true =>
   go_wp2_with (first
    | (refine wl_loadC st.mo rfl (by kernel_rfl) _ rfl (j := 1) (v := .int .i64 (y1 : Int)) rfl rfl ?_)
    | (refine wl_storeC st.mo rfl _ _ rfl rfl rfl rfl (by kernel_rfl) (Nat.le_of_ble_eq_true rfl) rfl (fun W7 b7 hg => ?_); replace st := st.store (y := ⟨1, -(y1 : Int), 0, 0, 0, 0, false, ⟨#[]⟩, 0, false, 0⟩) b7 hg; clear hg b7))
   go_meet
   case rel => exact st
  | false =>
   go_wp2
   go_meet
   case rel => exact st
 case rest =>
 clear st
 have st := hcut
 clear hcut
 go_wp2_with fail
 refine (rwant_o _ _ 45 _ st.rd).mono ?_
 rintro e v4 ⟨rfl, r4, c4⟩
 replace st := st.call (o' := Mo.wantO 45 (Mo.numO 4 (Mo.hasO 45 (some (bts l))))) c4 r4
 clear r4 c4
 go_wp2_with fail
 refine (rnumber_o _ _ 2 (by decide) _ st.rd).mono ?_
 rintro e v5 ⟨m1, rfl, hl_m1, r5, c5, hv5⟩
 replace st := st.call (o' := Mo.numO 2 (Mo.wantO 45 (Mo.numO 4 (Mo.hasO 45 (some (bts l)))))) c5 r5
 have HM1 : Hid (Mo.isNum 2 (Mo.wantO 45 (Mo.numO 4 (Mo.hasO 45 (some (bts l))))) m1) := Lib.hid hv5
 clear hv5 r5 c5
 go_upto_region 12 with (refine wl_storeC st.mo rfl _ _ rfl rfl rfl rfl (by kernel_rfl) (Nat.le_of_ble_eq_true rfl) rfl (fun W6s b6 hg => ?_); replace st := st.store (y := ⟨1, (if x1 then -(y1 : Int) else (y1 : Int)), (m1 : Int), 0, 0, 0, false, ⟨#[]⟩, 0, false, 0⟩) b6 hg; clear hg b6)
 go_wp2_with fail
 refine (rwant_o _ _ 45 _ st.rd).mono ?_
 rintro e v7 ⟨rfl, r7, c7⟩
 replace st := st.call (o' := Mo.wantO 45 (Mo.numO 2 (Mo.wantO 45 (Mo.numO 4 (Mo.hasO 45 (some (bts l))))))) c7 r7
 clear r7 c7
 go_wp2_with fail
 refine (rnumber_o _ _ 2 (by decide) _ st.rd).mono ?_
 rintro e v8 ⟨d1, rfl, hl_d1, r8, c8, hv8⟩
 replace st := st.call (o' := Mo.numO 2 (Mo.wantO 45 (Mo.numO 2 (Mo.wantO 45 (Mo.numO 4 (Mo.hasO 45 (some (bts l)))))))) c8 r8
 have HD1 : Hid (Mo.isNum 2 (Mo.wantO 45 (Mo.numO 2 (Mo.wantO 45 (Mo.numO 4 (Mo.hasO 45 (some (bts l))))))) d1) := Lib.hid hv8
 clear hv8 r8 c8
 go_upto_region 14 with (refine wl_storeC st.mo rfl _ _ rfl rfl rfl rfl (by kernel_rfl) (Nat.le_of_ble_eq_true rfl) rfl (fun W9s b9 hg => ?_); replace st := st.store (y := ⟨1, (if x1 then -(y1 : Int) else (y1 : Int)), (m1 : Int), (d1 : Int), 0, 0, false, ⟨#[]⟩, 0, false, 0⟩) b9 hg; clear hg b9)
 have HDT := Lib.hid (Mo.date_chain HX1.out HY1.out HM1.out HD1.out)
 clear HX1 HY1 HM1 HD1
 obtain ⟨yy, hyy⟩ : ∃ yy : Int, yy = (if x1 then -(y1 : Int) else (y1 : Int)) := ⟨_, rfl⟩
 rw [<- hyy] at st HDT
 clear hyy
 obtain ⟨OD, hOD⟩ : ∃ OD : Mo.Ob, OD = Mo.dateO (some (bts l)) := ⟨_, rfl⟩
 replace st := st.as (o' := OD) hOD.symm
 have HOD := Lib.hid hOD
 clear hOD
 go_wp2_with (go_at_call 58; refine (rtimed1 _).mono ?_; rintro e w1 ⟨rfl, rfl⟩)
 refine (ris_o _ _ 90 _ st.rd).mono ?_
 rintro e v10 ⟨x3, rfl, r10, c10, hx10⟩
 replace st := st.call (o' := Mo.hasO 90 (OD)) c10 r10
 have HX3 : Hid (Mo.isHas 90 (OD) x3) := Lib.hid hx10
 clear hx10 r10 c10
 go_upto_if 115 with fail
 go_cut [] (fun W => ∃ (zb : Bool) (zo : Int) (oF : Mo.Ob), SD w W W2.heap.size W3.heap.size ⟨1, yy, (m1 : Int), (d1 : Int), 0, 0, false, ⟨#[]⟩, 0, zb, zo⟩ (oF) /\ Hid ((∀ z, (OD).bind Mo.zoneP = some z -> z = (zb, zo)) /\ (((OD).bind Mo.zoneP).isSome = true ↔ oF = some [])))
 case first =>
  cases x3 with
  | true =>
   go_wp2_with (refine wl_storeC st.mo rfl _ _ rfl rfl rfl rfl (by kernel_rfl) (Nat.le_of_ble_eq_true rfl) rfl (fun W7 b7 hg => ?_); replace st := st.store (y := ⟨1, yy, (m1 : Int), (d1 : Int), 0, 0, false, ⟨#[]⟩, 0, true, 0⟩) b7 hg; clear hg b7)
   go_meet
   case rel => exact ⟨true, 0, _, st, Lib.hid (Mo.zone_Z HX3.out)⟩
  | false =>
   obtain ⟨s0, q0, hb0, hs0, hl0⟩ := st.rd
   have c0 := hb0.c0
   have HL0 := Lib.hid hl0
   clear hl0
   by_cases h0 : s0.size = 0
   ·have he := isEmpty_yes h0
    have he2 : (!s0.toList.isEmpty) = false := by rw [he]; rfl
    have hz := Lib.hid (Mo.zone_none HX3.out (fun l' h => by
     have hl := HL0.out
     rw [h] at hl
     rw [<- hl.2, bts_none h0]))
    clear HL0 h0
    go_wp2
    go_meet
    case rel => exact ⟨false, 0, _, st, hz⟩
   ·have hp : 0 < s0.size := by omega
    have he := isEmpty_no hp
    have he2 : (!s0.toList.isEmpty) = true := by rw [he]; rfl
    have hn : Hid (∀ l', Mo.hasO 90 (OD) = some l' -> l' ≠ []) := Lib.hid (fun l' h => by
     have hl := HL0.out
     rw [h] at hl
     rw [<- hl.2, bts_head hp]
     exact List.cons_ne_nil _ _)
    clear HL0 h0 hp
    go_upto_region 33 with (refine wl_storeC st.mo rfl _ _ rfl rfl rfl rfl (by kernel_rfl) (Nat.le_of_ble_eq_true rfl) rfl (fun W7 b7 hg => ?_); clear c0 hb0; replace st := st.store (y := ⟨1, yy, (m1 : Int), (d1 : Int), 0, 0, false, ⟨#[]⟩, 0, true, 0⟩) b7 hg; clear hg b7)
    go_wp2_with fail
    refine (ris_o _ _ 45 _ st.rd).mono ?_
    rintro e v12 ⟨x4, rfl, r12, c12, hx12⟩
    replace st := st.call (o' := Mo.hasO 45 (Mo.hasO 90 (OD))) c12 r12
    have HX4 : Hid (Mo.isHas 45 (Mo.hasO 90 (OD)) x4) := Lib.hid hx12
    clear hx12 r12 c12
    cases x4 with
    | true =>
     go_wp2_with fail
     refine (rnumber_o _ _ 2 (by decide) _ st.rd).mono ?_
     rintro e v13 ⟨h2, rfl, hl_h2, r13, c13, hv13⟩
     replace st := st.call (o' := Mo.numO 2 (Mo.hasO 45 (Mo.hasO 90 (OD)))) c13 r13
     have HH2 : Hid (Mo.isNum 2 ((Mo.hasO 45 (Mo.hasO 90 (OD)))) h2) := Lib.hid hv13
     clear hv13 r13 c13
     go_wp2_with fail
     refine (rwant_o _ _ 58 _ st.rd).mono ?_
     rintro e v14 ⟨rfl, r14, c14⟩
     replace st := st.call (o' := Mo.wantO 58 (Mo.numO 2 (Mo.hasO 45 (Mo.hasO 90 (OD))))) c14 r14
     clear r14 c14
     go_wp2_with fail
     refine (rnumber_o _ _ 2 (by decide) _ st.rd).mono ?_
     rintro e v15 ⟨i2, rfl, hl_i2, r15, c15, hv15⟩
     replace st := st.call (o' := Mo.tailO (Mo.hasO 45 (Mo.hasO 90 (OD)))) c15 r15
     have HI2 : Hid (Mo.isNum 2 (Mo.wantO 58 (Mo.numO 2 (Mo.hasO 45 (Mo.hasO 90 (OD))))) i2) := Lib.hid hv15
     clear hv15 r15 c15
     have hz := Lib.hid (Mo.zone_minus HX3.out hn.out HX4.out HH2.out HI2.out)
     clear hn HX3 HX4 HH2 HI2
     obtain ⟨z, hzz⟩ : ∃ z : Int, z = -(60 * (h2 : Int) + (i2 : Int)) := ⟨_, rfl⟩
     have e60 : (h2 : Int) * 60 + (i2 : Int) = -z := by omega
     have z0 : -1000000 <= z := by omega
     have z1 : z <= 1000000 := by omega
     rw [<- hzz] at hz
     clear hzz
     go_upto_region 40 with (refine wl_storeC st.mo rfl _ _ rfl rfl rfl rfl (by kernel_rfl) (Nat.le_of_ble_eq_true rfl) rfl (fun W7 b7 hg => ?_); replace st := st.store (y := ⟨1, yy, (m1 : Int), (d1 : Int), 0, 0, false, ⟨#[]⟩, 0, true, z⟩) b7 hg; clear hg b7)
     obtain ⟨s5, q5, hb5, hs5, hl5⟩ := st.rd
     have c1 := hb5.c1
     have f1 := hb5.f0 1
     have HL5 := Lib.hid hl5
     clear hl5 e60
     cases q5 with
     | true =>
      have st2 := Lib.hid (st.mark hb5 (o' := none) (b := true) ⟨hs5, rfl⟩)
      have hbad : Hid (Mo.tailO (Mo.hasO 45 (Mo.hasO 90 (OD))) = none) := Lib.hid (by
       have hl := HL5.out
       cases hO : Mo.tailO (Mo.hasO 45 (Mo.hasO 90 (OD))) with
       | none => rfl
       | some l' => rw [hO] at hl; cases hl.1)
      clear st hb5 HL5
      go_wp2
      go_meet
      case rel => exact ⟨true, z, none, st2.out, Lib.hid ⟨hz.out.1, by rw [hz.out.2, hbad.out]; simp⟩⟩
     | false =>
      by_cases hm : 59 < i2
      ·have g1 : decide ((59 : Int) < (i2 : Int)) = true := decide_eq_true (by omega)
       have st2 := Lib.hid (st.mark hb5 (o' := none) (b := true) ⟨hs5, rfl⟩)
       have hm2 : Hid (59 < i2) := Lib.hid hm
       clear st hb5 HL5 hm
       go_wp2
       go_meet
       case rel => exact ⟨true, z, none, st2.out, Lib.hid ⟨hz.out.1, by
        rw [hz.out.2]
        constructor
        ·intro h; have := hm2.out; omega
        ·intro h; cases h⟩⟩
      ·have g1 : decide ((59 : Int) < (i2 : Int)) = false := decide_eq_false (by omega)
       have st2 := Lib.hid (st.mark hb5 (o' := Mo.tailO (Mo.hasO 45 (Mo.hasO 90 (OD)))) (b := false) ⟨hs5, HL5.out⟩)
       have hm2 : Hid (i2 <= 59) := Lib.hid (by omega)
       clear st hb5 HL5 hm
       go_wp2
       go_meet
       case rel => exact ⟨true, z, _, st2.out, Lib.hid ⟨hz.out.1, by
        rw [hz.out.2]
        exact ⟨fun h => h.2, fun h => ⟨hm2.out, h⟩⟩⟩⟩
    | false =>
     go_wp2_with fail
     refine (rwant_o _ _ 43 _ st.rd).mono ?_
     rintro e v16 ⟨rfl, r16, c16⟩
     replace st := st.call (o' := Mo.wantO 43 (Mo.hasO 45 (Mo.hasO 90 (OD)))) c16 r16
     clear r16 c16
     go_wp2_with fail
     refine (rnumber_o _ _ 2 (by decide) _ st.rd).mono ?_
     rintro e v17 ⟨h2, rfl, hl_h2, r17, c17, hv17⟩
     replace st := st.call (o' := Mo.numO 2 (Mo.wantO 43 (Mo.hasO 45 (Mo.hasO 90 (OD))))) c17 r17
     have HH2 : Hid (Mo.isNum 2 ((Mo.wantO 43 (Mo.hasO 45 (Mo.hasO 90 (OD))))) h2) := Lib.hid hv17
     clear hv17 r17 c17
     go_wp2_with fail
     refine (rwant_o _ _ 58 _ st.rd).mono ?_
     rintro e v18 ⟨rfl, r18, c18⟩
     replace st := st.call (o' := Mo.wantO 58 (Mo.numO 2 (Mo.wantO 43 (Mo.hasO 45 (Mo.hasO 90 (OD)))))) c18 r18
     clear r18 c18
     go_wp2_with fail
     refine (rnumber_o _ _ 2 (by decide) _ st.rd).mono ?_
     rintro e v19 ⟨i2, rfl, hl_i2, r19, c19, hv19⟩
     replace st := st.call (o' := Mo.tailO (Mo.wantO 43 (Mo.hasO 45 (Mo.hasO 90 (OD))))) c19 r19
     have HI2 : Hid (Mo.isNum 2 (Mo.wantO 58 (Mo.numO 2 (Mo.wantO 43 (Mo.hasO 45 (Mo.hasO 90 (OD)))))) i2) := Lib.hid hv19
     clear hv19 r19 c19
     have hz := Lib.hid (Mo.zone_plus HX3.out hn.out HX4.out HH2.out HI2.out)
     clear hn HX3 HX4 HH2 HI2
     obtain ⟨z, hzz⟩ : ∃ z : Int, z = (60 * (h2 : Int) + (i2 : Int)) := ⟨_, rfl⟩
     have e60 : (h2 : Int) * 60 + (i2 : Int) = z := by omega
     have z0 : -1000000 <= z := by omega
     have z1 : z <= 1000000 := by omega
     rw [<- hzz] at hz
     clear hzz
     go_upto_region 40 with (refine wl_storeC st.mo rfl _ _ rfl rfl rfl rfl (by kernel_rfl) (Nat.le_of_ble_eq_true rfl) rfl (fun W7 b7 hg => ?_); replace st := st.store (y := ⟨1, yy, (m1 : Int), (d1 : Int), 0, 0, false, ⟨#[]⟩, 0, true, z⟩) b7 hg; clear hg b7)
     obtain ⟨s5, q5, hb5, hs5, hl5⟩ := st.rd
     have c1 := hb5.c1
     have f1 := hb5.f0 1
     have HL5 := Lib.hid hl5
     clear hl5 e60
     cases q5 with
     | true =>
      have st2 := Lib.hid (st.mark hb5 (o' := none) (b := true) ⟨hs5, rfl⟩)
      have hbad : Hid (Mo.tailO (Mo.wantO 43 (Mo.hasO 45 (Mo.hasO 90 (OD)))) = none) := Lib.hid (by
       have hl := HL5.out
       cases hO : Mo.tailO (Mo.wantO 43 (Mo.hasO 45 (Mo.hasO 90 (OD)))) with
       | none => rfl
       | some l' => rw [hO] at hl; cases hl.1)
      clear st hb5 HL5
      go_wp2
      go_meet
      case rel => exact ⟨true, z, none, st2.out, Lib.hid ⟨hz.out.1, by rw [hz.out.2, hbad.out]; simp⟩⟩
     | false =>
      by_cases hm : 59 < i2
      ·have g1 : decide ((59 : Int) < (i2 : Int)) = true := decide_eq_true (by omega)
       have st2 := Lib.hid (st.mark hb5 (o' := none) (b := true) ⟨hs5, rfl⟩)
       have hm2 : Hid (59 < i2) := Lib.hid hm
       clear st hb5 HL5 hm
       go_wp2
       go_meet
       case rel => exact ⟨true, z, none, st2.out, Lib.hid ⟨hz.out.1, by
        rw [hz.out.2]
        constructor
        ·intro h; have := hm2.out; omega
        ·intro h; cases h⟩⟩
      ·have g1 : decide ((59 : Int) < (i2 : Int)) = false := decide_eq_false (by omega)
       have st2 := Lib.hid (st.mark hb5 (o' := Mo.tailO (Mo.wantO 43 (Mo.hasO 45 (Mo.hasO 90 (OD))))) (b := false) ⟨hs5, HL5.out⟩)
       have hm2 : Hid (i2 <= 59) := Lib.hid (by omega)
       clear st hb5 HL5 hm
       go_wp2
       go_meet
       case rel => exact ⟨true, z, _, st2.out, Lib.hid ⟨hz.out.1, by
        rw [hz.out.2]
        exact ⟨fun h => h.2, fun h => ⟨hm2.out, h⟩⟩⟩⟩
 case rest =>
 clear st
 obtain ⟨zb, zo, oF, st, hz⟩ := hcut
 have HP := Lib.hid (Mo.parts1 HOD.out HDT.out hz.out.1)
 obtain ⟨s6, q6, hb6, hs6, hl6⟩ := st.rd
 have c0 := hb6.c0
 have c1 := hb6.c1
 have HL6 := Lib.hid hl6
 clear hl6
 by_cases hbad : q6 = true \/ s6.size ≠ 0
 ·have hR : Hid (Mo.readM 1 (bts l) = (Mo.nil, 6)) := Lib.hid (by
   have h : (OD).bind Mo.zoneP = none := by
    cases hh : (OD).bind Mo.zoneP with
    | none => rfl
    | some z =>
     exfalso
     have e := hz.out.2.1 (by rw [hh]; rfl)
     have hl := HL6.out
     rw [e] at hl
     rcases hbad with h | h
     ·rw [hl.1] at h; cases h
     ·exact h (by rw [<- bts_length, hl.2]; rfl)
   exact HP.out.1 h)
  clear HL6 HP hz
  cases q6 with
  | true =>
   go_wp2_with (refine wl_storeA st.res rfl _ _ rfl rfl rfl (by kernel_rfl) rfl rfl rfl (fun W8 b8 hg => ?_); have hB8 := below_far st.bel st.bel.size (Nat.le_refl _) hg; clear hg)
   exact bodyPost_ret (res_cell_tmp rfl b8 (by kernel_rfl) rfl rfl) rfl ⟨by rw [hR.out]; rfl, hB8⟩
  | false =>
   have hp : 0 < s6.size := by
    rcases hbad with h | h
    ·cases h
    ·omega
   have he := isEmpty_no hp
   have he2 : (!s6.toList.isEmpty) = true := by rw [he]; rfl
   clear hbad
   go_wp2_with (refine wl_storeA st.res rfl _ _ rfl rfl rfl (by kernel_rfl) rfl rfl rfl (fun W8 b8 hg => ?_); have hB8 := below_far st.bel st.bel.size (Nat.le_refl _) hg; clear hg)
   exact bodyPost_ret (res_cell_tmp rfl b8 (by kernel_rfl) rfl rfl) rfl ⟨by rw [hR.out]; rfl, hB8⟩
 ·simp only [not_or, Classical.not_not] at hbad
  obtain ⟨hq, h0⟩ := hbad
  have hq : q6 = false := by simpa using hq
  subst hq
  have he := isEmpty_yes h0
  have he2 : (!s6.toList.isEmpty) = false := by rw [he]; rfl
  have hR : Hid (Mo.partsP 1 (bts l) = some (⟨1, yy, (m1 : Int), (d1 : Int), 0, 0, false, ⟨#[]⟩, 0, zb, zo⟩, [])) := Lib.hid (by
   have e : oF = some [] := by
    have hl := HL6.out
    cases oF with
    | none => cases hl
    | some l' => rw [<- hl.2, bts_none h0]
   have h := hz.out.2.2 e
   exact HP.out.2 h)
  clear HL6 HP hz h0
  have hbel : Hid (Below w.heap.size w _) := Lib.hid st.bel
  cases hok : Mo.okB ⟨1, yy, (m1 : Int), (d1 : Int), 0, 0, false, ⟨#[]⟩, 0, zb, zo⟩ with
  | true =>
   have hE : Hid (Mo.readM 1 (bts l) = (⟨1, yy, (m1 : Int), (d1 : Int), 0, 0, false, ⟨#[]⟩, 0, zb, zo⟩, 0)) := Lib.hid (by unfold Mo.readM; rw [if_pos (by decide), hR.out]; show Mo.doneM 1 _ = _; unfold Mo.doneM; rw [if_pos rfl, if_pos hok])
   clear hR
   go_wp2_with (first
    | (go_at_call 58; refine (rtimed1 _).mono ?_; rintro e w1 ⟨rfl, rfl⟩)
    | (refine wl_loadA st.mo rfl (by kernel_rfl) _ rfl rfl ?_)
    | (go_at_call 40; refine (rcheckm_is ⟨1, yy, (m1 : Int), (d1 : Int), 0, 0, false, ⟨#[]⟩, 0, zb, zo⟩ (by show (0 : Nat) <= 1000000; exact Nat.zero_le _) _ M (hV.next st.bel)).mono ?_; rw [hok]; rintro e w5 ⟨rfl, hb⟩; replace st := st.pass hb; clear hb)
    | (refine wl_storeA st.res rfl _ _ rfl rfl rfl (by kernel_rfl) rfl rfl rfl (fun W8 b8 hg => ?_); have hB8 := below_far st.bel st.bel.size (Nat.le_refl _) hg; clear hg))
   exact bodyPost_ret (res_cell_tmp rfl b8 (by kernel_rfl) rfl rfl) rfl ⟨by rw [hE.out]; rfl, hB8⟩
  | false =>
   have hE : Hid (Mo.readM 1 (bts l) = (Mo.nil, 6)) := Lib.hid (by unfold Mo.readM; rw [if_pos (by decide), hR.out]; show Mo.doneM 1 _ = _; unfold Mo.doneM; rw [if_pos rfl, if_neg (by rw [hok]; decide)])
   clear hR
   go_wp2_with (first
    | (go_at_call 58; refine (rtimed1 _).mono ?_; rintro e w1 ⟨rfl, rfl⟩)
    | (refine wl_loadA st.mo rfl (by kernel_rfl) _ rfl rfl ?_)
    | (go_at_call 40; refine (rcheckm_is ⟨1, yy, (m1 : Int), (d1 : Int), 0, 0, false, ⟨#[]⟩, 0, zb, zo⟩ (by show (0 : Nat) <= 1000000; exact Nat.zero_le _) _ M (hV.next st.bel)).mono ?_; rw [hok]; rintro e w5 ⟨rfl, hb⟩; replace st := st.pass hb; clear hb)
    | (refine wl_storeA st.res rfl _ _ rfl rfl rfl (by kernel_rfl) rfl rfl rfl (fun W8 b8 hg => ?_); have hB8 := below_far st.bel st.bel.size (Nat.le_refl _) hg; clear hg))
   exact bodyPost_ret (res_cell_tmp rfl b8 (by kernel_rfl) rfl rfl) rfl ⟨by rw [hE.out]; rfl, hB8⟩
end Go.Proofs.YthoojcdjjecogaaGreatDoor
