/-
  Part 29 of the proof: what functions return, and plain facts (Mptext). Conditions: each theorem names its own.
-/
import Derived.Test.YthoojcdjjecogaaGreatDoorG21
import Derived.Test.YthoojcdjjecogaaGreatDoorG28
import Derived.Test.YthoojcdjjecogaaGreatDoorG11
import Derived.StillTailTactics
set_option maxRecDepth 1000000
set_option maxHeartbeats 16000000
namespace Go.Proofs.YthoojcdjjecogaaGreatDoor
open Go Go.RowKit

theorem zero_bd : (Tryz.prog.info? 99).bind (·.zero) = some (.agg #[.pointer none, .slice none 0 0]) := by kernel_rfl
structure TB (w0 w : World) (m b : Nat) (x : Mo) (A : List Nat) : Prop where
 mo : Blk w m 26 x.list.toArray
 bd : Lib.IsBuilder 99 5 b b (u8s A) w
 lo : w0.heap.size <= m
 mb : m < b
 sz : A.length <= 1000
 lt : ∀ c ∈ A, c < 256
 bel : Below w0.heap.size w0 w
section
variable {w0 w w' : World} {m b : Nat} {x : Mo} {A : List Nat}
theorem TB.ble (h : TB w0 w m b x A) : b < w.heap.size := by rcases h.bd with q | q <;> exact q.lt
theorem TB.pass (h : TB w0 w m b x A) (hb : Below w.heap.size w w') : TB w0 w' m b x A :=
 ⟨h.mo.keep hb, builder_below h.bd hb, h.lo, h.mb, h.sz, h.lt, below_step h.bel hb⟩
theorem TB.add (h : TB w0 w m b x A) {s : ByteArray} (hd : Lib.BuilderAt 99 5 b b (.pointer (some ⟨b, 0, none⟩)) (u8s A ++ Lib.strCells s) w') (hb : Below b w w') (hs : (A ++ bts s).length <= 1000) : TB w0 w' m b x (A ++ bts s) :=
 ⟨(hb.block m h.mb).trans h.mo, .inr (by rw [u8s_append, <- strCells_bts]; exact hd), h.lo, h.mb, hs, fun c hc => by
  rcases List.mem_append.1 hc with q | q
  ·exact h.lt c q
  ·exact bts_lt s c q, h.bel.trans (hb.mono (by have := h.lo; have := h.mb; omega))⟩
theorem TB.as (h : TB w0 w m b x A) {B : List Nat} (e : A = B) : TB w0 w m b x B := e ▸ h
theorem TB.write (h : TB w0 w m b x A) (s : ByteArray) (hs : (A ++ bts s).length <= 1000) : Calls Tryz.prog 95 #[.pointer (some ⟨b, 0, none⟩), .string s] w fun e w' => e = .returned (.tuple #[.int .i64 s.size, .nilIface]) /\ TB w0 w' m b x (A ++ bts s) := by
 rw [List.length_append, bts_length] at hs
 refine (writeString_any b b (u8s A) s w h.bd (by rw [u8s_length]; omega) (Nat.le_of_lt h.ble)).mono ?_
 rintro e w' ⟨rfl, hd, hb⟩
 exact ⟨rfl, h.add hd hb (by rw [List.length_append, bts_length]; exact hs)⟩
theorem TB.str (h : TB w0 w m b x A) : Calls Tryz.prog 68 #[.pointer (some ⟨b, 0, none⟩)] w fun e w' => e = .returned (.string (str A)) /\ Below w0.heap.size w0 w' := by
 have hd : Lib.IsBuilder 99 5 b b (Lib.byteCells (A.map UInt8.ofNat)) w := by rw [byteCells_u8 _ h.lt]; exact h.bd
 refine (Tryz.Builder_String_any b b _ w hd (Nat.le_of_lt h.ble)).mono ?_
 rintro e w' ⟨rfl, hb⟩
 exact ⟨rfl, h.bel.trans (hb.mono (by have := h.lo; have := h.mb; omega))⟩
end
theorem pdated1 (w : World) : Calls Tryz.prog 100 #[.int .i64 1] w fun e w' => e = .returned (.bool true) /\ w = w' := by
 go_enter Tryz.func100, Tryz.ntmps100
 go_wp2
 go_ret
 exact ⟨rfl, rfl⟩
theorem ptimed1 (w : World) : Calls Tryz.prog 102 #[.int .i64 1] w fun e w' => e = .returned (.bool false) /\ w = w' := by
 go_enter Tryz.func102, Tryz.ntmps102
 go_wp2
 go_ret
 exact ⟨rfl, rfl⟩
theorem pdated2 (w : World) : Calls Tryz.prog 100 #[.int .i64 2] w fun e w' => e = .returned (.bool false) /\ w = w' := by
 go_enter Tryz.func100, Tryz.ntmps100
 go_wp2
 go_ret
 exact ⟨rfl, rfl⟩
theorem ptimed2 (w : World) : Calls Tryz.prog 102 #[.int .i64 2] w fun e w' => e = .returned (.bool true) /\ w = w' := by
 go_enter Tryz.func102, Tryz.ntmps102
 go_wp2
 go_ret
 exact ⟨rfl, rfl⟩
theorem pdated3 (w : World) : Calls Tryz.prog 100 #[.int .i64 3] w fun e w' => e = .returned (.bool true) /\ w = w' := by
 go_enter Tryz.func100, Tryz.ntmps100
 go_wp2
 go_ret
 exact ⟨rfl, rfl⟩
theorem ptimed3 (w : World) : Calls Tryz.prog 102 #[.int .i64 3] w fun e w' => e = .returned (.bool true) /\ w = w' := by
 go_enter Tryz.func102, Tryz.ntmps102
 go_wp2
 go_ret
 exact ⟨rfl, rfl⟩
theorem cat_le {a b c : ByteArray} {i j : Nat} (h : a ++ b = c) (ha : a.size <= i) (hb : b.size <= j) : c.size <= i + j := by rw [<- h, cat_size]; omega
theorem ppadded_v (n m : Nat) (hm : m <= 4) (hn : n < 10 ^ m) (h1 : 1 <= m) (w : World) (hP : Pow w) : Calls Tryz.prog 101 #[.int .i64 (n : Int), .int .i64 (m : Int)] w fun e w' => ∃ p : ByteArray, e = .returned (.string p) /\ Hid (bts p = Dc.pad m n) /\ p.size <= 4 /\ Below w.heap.size w w' := by
 have h4 : 10 ^ m <= 10 ^ 4 := Nat.pow_le_pow_right (by decide) hm
 refine (ppadded_is n m hm (by omega) w hP).mono ?_
 rintro e w' ⟨rfl, hb⟩
 have hl : ∀ c ∈ Dc.pad m n, c < 256 := fun c hc => by have := Dc.dig_iff.1 (List.all_eq_true.1 (Dc.pad_dig m n) c hc); omega
 exact ⟨_, rfl, Lib.hid (bts_str _ hl), by rw [str_size, Dc.pad_length h1 hn]; exact hm, hb⟩
theorem date_length {x : Mo} (h : Mo.Ok x) : (Mo.dateL x).length <= 100 := by
 obtain ⟨y0, y1, m0, m1, d0, d1, _⟩ := ok_low h
 unfold Mo.dateL
 have a := Dc.pad_length (k := 4) (n := x.y.natAbs) (by decide) (by omega)
 have b := Dc.pad_length (k := 2) (n := x.m.natAbs) (by decide) (by omega)
 have c := Dc.pad_length (k := 2) (n := x.d.natAbs) (by decide) (by omega)
 simp only [List.length_append, List.length_cons, a, b, c]
 split <;> simp
theorem time_length {x : Mo} (h : Mo.Ok x) (hk : x.k ≠ 1) : (Mo.timeL x).length <= 300 := by
 obtain ⟨_, _, _, _, _, _, h0, h1, i0, i1⟩ := ok_low h
 obtain ⟨_, _, _, h5⟩ := sec_txt (ok_time h hk).1
 unfold Mo.timeL
 have a := Dc.pad_length (k := 2) (n := x.h.natAbs) (by decide) (by omega)
 have b := Dc.pad_length (k := 2) (n := x.i.natAbs) (by decide) (by omega)
 have c : (Mo.secL x).length <= 201 := by
  show (if (Dc.whole (Mo.secQ x)).length < 2 then 48 :: Mo.secQ x else Mo.secQ x).length <= 201
  split
  ·rw [List.length_cons]; omega
  ·omega
 simp only [List.length_append, List.length_cons, a, b]
 omega
theorem full_length {x : Mo} {D : List Nat} (h : Mo.Ok x) (hk : x.k ≠ 1) (hD : D = Mo.dateL x) : (D ++ [84] ++ Mo.timeL x).length <= 900 := by
 have a := date_length h
 have b := time_length h hk
 rw [hD]
 simp only [List.length_append, List.length_cons, List.length_nil]
 omega
theorem ptext1 (y : Int) (m d h i : Nat) (n : Bool) (s : ByteArray) (S : Int) (z : Bool) (o : Int) (hO : Mo.Ok ⟨1, y, (m : Int), (d : Int), (h : Int), (i : Int), n, s, S, z, o⟩) (hx : s.size <= 1000000) (w : World) (M : Int) (hV : Vars M w) : Calls Tryz.prog 66 #[(⟨1, y, (m : Int), (d : Int), (h : Int), (i : Int), n, s, S, z, o⟩ : Mo).val] w fun e w' => e = .returned (textV ⟨1, y, (m : Int), (d : Int), (h : Int), (i : Int), n, s, S, z, o⟩) /\ Below w.heap.size w w' := by
 obtain ⟨y0, y1, m0, m1, d0, d1, h0, h1, i0, i1⟩ := ok_low hO
 simp only at y0 y1 m0 m1 d0 d1 h0 h1 i0 i1
 have o0 : -840 <= o := hO.2.1
 have o1 : o <= 840 := hO.2.2.1
 have HO := Lib.hid hO
 have hok : Mo.okB ⟨1, y, (m : Int), (d : Int), (h : Int), (i : Int), n, s, S, z, o⟩ = true := decide_eq_true hO
 obtain ⟨R, hR⟩ : ∃ R, textV ⟨1, y, (m : Int), (d : Int), (h : Int), (i : Int), n, s, S, z, o⟩ = R := ⟨_, rfl⟩
 have HR := Lib.hid hR
 rw [hR]
 clear hO hR
 go_enter Tryz.func66, Tryz.ntmps66
 go_upto_region 1 with (refine wl_boxA rfl (.tmp 0) rfl rfl (fun W2 b2 hb => ?_); have hB := hb; clear hb)
 go_upto_region 3 with (first
  | (refine wl_loadA b2 rfl (by kernel_rfl) _ rfl rfl ?_)
  | (go_at_call 72; refine (pvalid_is ⟨1, y, (m : Int), (d : Int), (h : Int), (i : Int), n, s, S, z, o⟩ hx _ M (hV.next hB)).mono ?_; rw [hok]; rintro e w1 ⟨rfl, hb⟩; replace b2 := b2.keep hb; replace hB := below_step hB hb; clear hb))
 go_upto_region 4 with (refine wl_allocA rfl zero_bd rfl (fun W3 b3 hb => ?_); have l2 := b2.lt; replace b2 := b2.keep hb; have tb : TB w W3 w.heap.size w1.heap.size ⟨1, y, (m : Int), (d : Int), (h : Int), (i : Int), n, s, S, z, o⟩ [] := ⟨b2, .inl ⟨Nat.le_refl _, _, b3, ⟨rfl, .inl ⟨rfl, rfl⟩⟩, by simp [Value.ownBlock]⟩, Nat.le_refl _, l2, Nat.zero_le _, (fun c hc => by cases hc), below_step hB hb⟩; clear hb b2 b3 hB l2)
 go_upto_if 19 with (first
  | (refine wl_loadC tb.mo rfl (by kernel_rfl) _ rfl (j := 0) (v := .int .i64 1) rfl rfl ?_)
  | (go_at_call 100; refine (pdated1 _).mono ?_; rintro e w2 ⟨rfl, rfl⟩)
  | (refine wl_loadC tb.mo rfl (by kernel_rfl) _ rfl (j := 1) (v := .int .i64 y) rfl rfl ?_))
 obtain ⟨N, hN⟩ : ∃ N : List Nat, N = (if y < 0 then [45] else []) := ⟨_, rfl⟩
 have hNl : N.length <= 1 := by rw [hN]; split <;> decide
 have HN := Lib.hid hN
 clear hN
 go_cut [] (fun W => TB w W w.heap.size w1.heap.size ⟨1, y, (m : Int), (d : Int), (h : Int), (i : Int), n, s, S, z, o⟩ (N))
 case first =>
  by_cases hy : y < 0
  ·have g1 : decide (y < 0) = true := decide_eq_true hy
   go_wp2_with fail
   refine (tb.write ⟨#[45]⟩ (by decide)).mono ?_
   rintro e w2 ⟨rfl, tb2⟩
   clear tb
   go_wp2
   go_meet
   case rel => exact tb2.as (by rw [HN.out, if_pos (by omega)]; rfl)
  ·have g1 : decide (y < 0) = false := decide_eq_false hy
   go_wp2
   go_meet
   case rel => exact tb.as (by rw [HN.out, if_neg (by omega)])
 case rest =>
 clear tb
 have tb := hcut
 clear hcut
 obtain ⟨a, ha⟩ : ∃ a : Nat, a = y.natAbs := ⟨_, rfl⟩
 have hmx : max y (IntKind.i64.wrap (-y)) = (a : Int) := by rw [w64 (by omega) (by omega)]; omega
 have ha4 : a <= 9999 := by omega
 have HA := Lib.hid ha
 clear ha
 go_upto_region 7 with fail
 refine wp_region_held_drew (S := fun W : World => Blk W w.heap.size 26 (Mo.list ⟨1, y, (m : Int), (d : Int), (h : Int), (i : Int), n, s, S, z, o⟩).toArray) (by kernel_rfl) tb.mo.drew (fun hS => ?_)
 replace tb := tb.pass (below_drew _)
 refine takeE (i := 0) (d := some 21) (v := ?v1) rfl rfl (Or.inl ⟨by rfl, ?h1⟩) hS ?_
 case h1 => intro W _; go_simp; first | done | with_reducible rfl | (rw [if_neg (by omega)])
 simp only [Act.put, zA, zB, zC]
 refine takeE (i := 1) (d := some 22) (v := .int .i64 y) rfl rfl (yields_C rfl (by rfl) (by kernel_rfl) _ rfl (j := 1) rfl rfl (fun W hW => hW)) hS ?_
 simp only [Act.put, zA, zB, zC]
 refine takeE (i := 2) (d := some 23) (v := ?v2) rfl rfl (Or.inl ⟨by rfl, ?h2⟩) hS ?_
 case h2 => intro W _; go_simp; first | done | with_reducible rfl | (rw [if_neg (by omega)])
 simp only [Act.put, zA, zB, zC]
 refine takeE (i := 3) (d := some 24) (v := .int .i64 y) rfl rfl (yields_C rfl (by rfl) (by kernel_rfl) _ rfl (j := 1) rfl rfl (fun W hW => hW)) hS ?_
 simp only [Act.put, zA, zB, zC]
 refine takeE (i := 4) (d := some 25) (v := ?v3) rfl rfl (Or.inl ⟨by rfl, ?h3⟩) hS ?_
 case h3 => intro W _; go_simp; first | done | with_reducible rfl | (rw [if_neg (by omega)])
 simp only [Act.put, zA, zB, zC]
 refine takeE (i := 5) (d := some 26) (v := ?v4) rfl rfl (Or.inl ⟨by rfl, ?h4⟩) hS ?_
 case h4 => intro W _; go_simp; first | done | with_reducible rfl | (rw [if_neg (by omega)])
 simp only [Act.put, zA, zB, zC]
 refine takeE (i := 8) (d := some 29) (v := ?v5) rfl rfl (Or.inl ⟨by rfl, ?h5⟩) hS ?_
 case h5 => intro W _; go_simp; first | done | with_reducible rfl | (rw [if_neg (by omega)])
 simp only [Act.put, zA, zB, zC]
 refine takeE (i := 9) (d := some 30) (v := .int .i64 (m : Int)) rfl rfl (yields_C rfl (by rfl) (by kernel_rfl) _ rfl (j := 2) rfl rfl (fun W hW => hW)) hS ?_
 simp only [Act.put, zA, zB, zC]
 refine takeE (i := 13) (d := some 34) (v := ?v6) rfl rfl (Or.inl ⟨by rfl, ?h6⟩) hS ?_
 case h6 => intro W _; go_simp; first | done | with_reducible rfl | (rw [if_neg (by omega)])
 simp only [Act.put, zA, zB, zC]
 refine takeE (i := 14) (d := some 35) (v := .int .i64 (d : Int)) rfl rfl (yields_C rfl (by rfl) (by kernel_rfl) _ rfl (j := 3) rfl rfl (fun W hW => hW)) hS ?_
 simp only [Act.put, zA, zB, zC]
 refine ready1 (i := 6) rfl (fun Kc hKc => ?_)
 go_simp
 refine (ppadded_v a 4 (by decide) (by omega) (by decide) _ (hV.next tb.bel).pow).mono ?_
 rintro e p1w ⟨p1, rfl, hp1, lp1, hb⟩
 replace tb := tb.pass hb
 refine hKc.out _ _ (hS.keep hb) (fun hS => ?_)
 clear hKc Kc hb
 obtain ⟨q1, hq1⟩ : ∃ q, p1 ++ ⟨#[45]⟩ = q := ⟨_, rfl⟩
 have lq1 := cat_le hq1 lp1 (Nat.le_refl 1)
 refine takeE (i := 7) (d := some 28) (v := ?v7) rfl rfl (Or.inl ⟨by rfl, ?h7⟩) hS ?_
 case h7 => intro W _; go_simp; first | done | with_reducible rfl | (rw [if_neg (by omega)])
 simp only [Act.put, zA, zB, zC]
 refine ready1 (i := 10) rfl (fun Kc hKc => ?_)
 go_simp
 refine (ppadded_v m 2 (by decide) (by omega) (by decide) _ (hV.next tb.bel).pow).mono ?_
 rintro e p2w ⟨p2, rfl, hp2, lp2, hb⟩
 replace tb := tb.pass hb
 refine hKc.out _ _ (hS.keep hb) (fun hS => ?_)
 clear hKc Kc hb
 obtain ⟨q2, hq2⟩ : ∃ q, q1 ++ p2 = q := ⟨_, rfl⟩
 have lq2 := cat_le hq2 lq1 lp2
 refine takeE (i := 11) (d := some 32) (v := ?v8) rfl rfl (Or.inl ⟨by rfl, ?h8⟩) hS ?_
 case h8 => intro W _; go_simp; first | done | with_reducible rfl | (rw [if_neg (by omega)])
 simp only [Act.put, zA, zB, zC]
 obtain ⟨q3, hq3⟩ : ∃ q, q2 ++ ⟨#[45]⟩ = q := ⟨_, rfl⟩
 have lq3 := cat_le hq3 lq2 (Nat.le_refl 1)
 refine takeE (i := 12) (d := some 33) (v := ?v9) rfl rfl (Or.inl ⟨by rfl, ?h9⟩) hS ?_
 case h9 => intro W _; go_simp; first | done | with_reducible rfl | (rw [if_neg (by omega)])
 simp only [Act.put, zA, zB, zC]
 refine ready1 (i := 15) rfl (fun Kc hKc => ?_)
 go_simp
 refine (ppadded_v d 2 (by decide) (by omega) (by decide) _ (hV.next tb.bel).pow).mono ?_
 rintro e p3w ⟨p3, rfl, hp3, lp3, hb⟩
 replace tb := tb.pass hb
 refine hKc.out _ _ (hS.keep hb) (fun hS => ?_)
 clear hKc Kc hb
 obtain ⟨q4, hq4⟩ : ∃ q, q3 ++ p3 = q := ⟨_, rfl⟩
 have lq4 := cat_le hq4 lq3 lp3
 refine takeE (i := 16) (d := some 37) (v := ?v10) rfl rfl (Or.inl ⟨by rfl, ?h10⟩) hS ?_
 case h10 => intro W _; go_simp; first | done | with_reducible rfl | (rw [if_neg (by omega)])
 simp only [Act.put, zA, zB, zC]
 refine ready1 (i := 17) rfl (fun Kc hKc => ?_)
 go_simp
 refine (tb.write q4 (by rw [List.length_append, bts_length]; omega)).mono ?_
 rintro e q4w ⟨rfl, tb4⟩
 refine hKc.out _ _ tb4.mo (fun hS => ?_)
 clear hKc Kc tb hS
 refine wpAnyH_done (by kernel_rfl) ?_ _
 have tb := tb4.as (B := Mo.dateL ⟨1, y, (m : Int), (d : Int), (h : Int), (i : Int), n, s, S, z, o⟩) (by rw [HN.out, <- hq4, <- hq3, <- hq2, <- hq1, str_add, str_add, str_add, str_add, hp1.out, hp2.out, hp3.out, HA.out]; unfold Mo.dateL; simp only [List.append_assoc]; rfl)
 clear tb4
 clear hq1 hq2 hq3 hq4 lq1 lq2 lq3 lq4 hp1 hp2 hp3 lp1 lp2 lp3 hmx HN HA
 obtain ⟨D, hD⟩ : ∃ D : List Nat, D = Mo.dateL ⟨1, y, (m : Int), (d : Int), (h : Int), (i : Int), n, s, S, z, o⟩ := ⟨_, rfl⟩
 replace tb := tb.as hD.symm
 have HD := Lib.hid hD
 have hDl : D.length <= 100 := by rw [hD]; exact date_length HO.out
 clear hD
 obtain ⟨E, hE⟩ : ∃ E : List Nat, E = D := ⟨_, rfl⟩
 replace tb := tb.as hE.symm
 have hEl : E.length <= 900 := by rw [hE]; exact by omega
 have HF : Hid (∀ Z, Mo.zoneL ⟨1, y, (m : Int), (d : Int), (h : Int), (i : Int), n, s, S, z, o⟩ = Z -> R = .tuple #[.string (str (E ++ Z)), .int .i64 0]) := Lib.hid (fun Z hZ => by
  rw [<- HR.out, <- hZ]
  refine (textV_ok HO.out ?_).symm
  rw [hE]
  rw [HD.out]
  unfold Mo.textL
  simp)
 clear hE
 obtain ⟨b, hb⟩ : ∃ b : Nat, b = o.natAbs := ⟨_, rfl⟩
 have hbx : max o (-o) = (b : Int) := by omega
 have hbx2 : max o (IntKind.i64.wrap (-o)) = (b : Int) := by rw [w64 (by omega) (by omega)]; omega
 have hb8 : b <= 840 := by omega
 have HB := Lib.hid hb
 clear hb HO HR hok HD
 obtain ⟨b1, hb1⟩ : ∃ b1 : Nat, b1 = b / 60 := ⟨_, rfl⟩
 obtain ⟨b2, hb2⟩ : ∃ b2 : Nat, b2 = b % 60 := ⟨_, rfl⟩
 have hbd : (b : Int).tdiv 60 = (b1 : Int) := by rw [Int.tdiv_eq_ediv_of_nonneg (by omega)]; omega
 have hbm : (b : Int).tmod 60 = (b2 : Int) := by rw [Int.tmod_eq_emod_of_nonneg (by omega)]; omega
 have hb1l : b1 <= 14 := by omega
 have hb2l : b2 <= 59 := by omega
 have HB1 := Lib.hid hb1
 have HB2 := Lib.hid hb2
 clear hb1 hb2
 cases z with
 | false =>
  go_wp2_with (first | (refine wl_loadC tb.mo rfl (by kernel_rfl) _ rfl (j := 0) (v := .int .i64 1) rfl rfl ?_) | (go_at_call 100; refine (pdated1 _).mono ?_; rintro e w2 ⟨rfl, rfl⟩) | (go_at_call 102; refine (ptimed1 _).mono ?_; rintro e w2 ⟨rfl, rfl⟩) | (refine wl_loadC tb.mo rfl (by kernel_rfl) _ rfl (j := 10) (v := .int .i64 o) rfl rfl ?_) | (refine wl_loadC tb.mo rfl (by kernel_rfl) _ rfl (j := 9) (v := .bool false) rfl rfl ?_))
  refine (tb.str).mono ?_
  rintro e w9 ⟨rfl, hb⟩
  go_wp2
  go_ret2
  exact ⟨by rw [HF.out [] rfl, List.append_nil]; rfl, hb⟩
 | true =>
  by_cases hz : b = 0
  ·have g1 : ((b : Int) == 0) = true := by rw [hz]; rfl
   have ho : o = 0 := by omega
   have HZ := Lib.hid ho
   clear hz ho
   go_wp2_with (first | (refine wl_loadC tb.mo rfl (by kernel_rfl) _ rfl (j := 0) (v := .int .i64 1) rfl rfl ?_) | (go_at_call 100; refine (pdated1 _).mono ?_; rintro e w2 ⟨rfl, rfl⟩) | (go_at_call 102; refine (ptimed1 _).mono ?_; rintro e w2 ⟨rfl, rfl⟩) | (refine wl_loadC tb.mo rfl (by kernel_rfl) _ rfl (j := 10) (v := .int .i64 o) rfl rfl ?_) | (refine wl_loadC tb.mo rfl (by kernel_rfl) _ rfl (j := 9) (v := .bool true) rfl rfl ?_))
   refine (tb.write ⟨#[90]⟩ (by rw [List.length_append]; show _ + 1 <= 1000; omega)).mono ?_
   rintro e w8 ⟨rfl, tb2⟩
   clear tb
   go_wp2_with fail
   refine (tb2.str).mono ?_
   rintro e w9 ⟨rfl, hb⟩
   go_wp2
   go_ret2
   exact ⟨by rw [HF.out [90] (by unfold Mo.zoneL; rw [if_neg (show ¬ (true = false) by decide), if_pos HZ.out])]; rfl, hb⟩
  ·have g1 : ((b : Int) == 0) = false := beq_no hz
   by_cases hp : 0 < o
   ·have g2 : decide (0 < o) = true := decide_eq_true hp
    have HZ : Hid (o ≠ 0 /\ 0 < o) := Lib.hid ⟨by omega, hp⟩
    clear hz hp
    have hone : (⟨#[43]⟩ : ByteArray).size <= 1 := Nat.le_refl _
    have htwo : (⟨#[58]⟩ : ByteArray).size <= 1 := Nat.le_refl _
    go_wp2_with (first | (refine wl_loadC tb.mo rfl (by kernel_rfl) _ rfl (j := 0) (v := .int .i64 1) rfl rfl ?_) | (go_at_call 100; refine (pdated1 _).mono ?_; rintro e w2 ⟨rfl, rfl⟩) | (go_at_call 102; refine (ptimed1 _).mono ?_; rintro e w2 ⟨rfl, rfl⟩) | (refine wl_loadC tb.mo rfl (by kernel_rfl) _ rfl (j := 10) (v := .int .i64 o) rfl rfl ?_) | (refine wl_loadC tb.mo rfl (by kernel_rfl) _ rfl (j := 9) (v := .bool true) rfl rfl ?_))
    refine (ppadded_v b1 2 (by decide) (by omega) (by decide) _ (hV.next tb.bel).pow).mono ?_
    rintro e w6 ⟨p6, rfl, hp6, lp6, hb⟩
    replace tb := tb.pass hb
    obtain ⟨q9, hq9⟩ : ∃ q, ⟨#[43]⟩ ++ p6 = q := ⟨_, rfl⟩
    have lq9 := cat_le hq9 hone lp6
    obtain ⟨q10, hq10⟩ : ∃ q, q9 ++ ⟨#[58]⟩ = q := ⟨_, rfl⟩
    have lq10 := cat_le hq10 lq9 htwo
    clear hb
    go_wp2_with fail
    refine (ppadded_v b2 2 (by decide) (by omega) (by decide) _ (hV.next tb.bel).pow).mono ?_
    rintro e w7 ⟨p7, rfl, hp7, lp7, hb⟩
    replace tb := tb.pass hb
    obtain ⟨q11, hq11⟩ : ∃ q, q10 ++ p7 = q := ⟨_, rfl⟩
    have lq11 := cat_le hq11 lq10 lp7
    clear hb
    go_wp2_with fail
    refine (tb.write q11 (by rw [List.length_append, bts_length]; omega)).mono ?_
    rintro e w8 ⟨rfl, tb2⟩
    clear tb
    have HQ : Hid (bts q11 = Mo.zoneL ⟨1, y, (m : Int), (d : Int), (h : Int), (i : Int), n, s, S, true, o⟩) := Lib.hid (by
     rw [<- hq11, <- hq10, <- hq9, str_add, str_add, str_add, hp6.out, hp7.out, HB1.out, HB2.out, HB.out]
     unfold Mo.zoneL
     rw [if_neg (show ¬ (true = false) by decide), if_neg (show ¬ o = 0 from HZ.out.1), if_pos (show 0 < o by have := HZ.out.2; omega)]
     simp only [List.append_assoc]; rfl)
    clear hq9 hq10 hq11
    go_wp2_with fail
    refine (tb2.str).mono ?_
    rintro e w9 ⟨rfl, hb⟩
    go_wp2
    go_ret2
    exact ⟨by rw [HF.out (bts q11) HQ.out.symm]; rfl, hb⟩
   ·have g2 : decide (0 < o) = false := decide_eq_false hp
    have HZ : Hid (o ≠ 0 /\ ¬ 0 < o) := Lib.hid ⟨by omega, hp⟩
    clear hz hp
    have hone : (⟨#[45]⟩ : ByteArray).size <= 1 := Nat.le_refl _
    have htwo : (⟨#[58]⟩ : ByteArray).size <= 1 := Nat.le_refl _
    go_wp2_with (first | (refine wl_loadC tb.mo rfl (by kernel_rfl) _ rfl (j := 0) (v := .int .i64 1) rfl rfl ?_) | (go_at_call 100; refine (pdated1 _).mono ?_; rintro e w2 ⟨rfl, rfl⟩) | (go_at_call 102; refine (ptimed1 _).mono ?_; rintro e w2 ⟨rfl, rfl⟩) | (refine wl_loadC tb.mo rfl (by kernel_rfl) _ rfl (j := 10) (v := .int .i64 o) rfl rfl ?_) | (refine wl_loadC tb.mo rfl (by kernel_rfl) _ rfl (j := 9) (v := .bool true) rfl rfl ?_))
    refine (ppadded_v b1 2 (by decide) (by omega) (by decide) _ (hV.next tb.bel).pow).mono ?_
    rintro e w6 ⟨p6, rfl, hp6, lp6, hb⟩
    replace tb := tb.pass hb
    obtain ⟨q9, hq9⟩ : ∃ q, ⟨#[45]⟩ ++ p6 = q := ⟨_, rfl⟩
    have lq9 := cat_le hq9 hone lp6
    obtain ⟨q10, hq10⟩ : ∃ q, q9 ++ ⟨#[58]⟩ = q := ⟨_, rfl⟩
    have lq10 := cat_le hq10 lq9 htwo
    clear hb
    go_wp2_with fail
    refine (ppadded_v b2 2 (by decide) (by omega) (by decide) _ (hV.next tb.bel).pow).mono ?_
    rintro e w7 ⟨p7, rfl, hp7, lp7, hb⟩
    replace tb := tb.pass hb
    obtain ⟨q11, hq11⟩ : ∃ q, q10 ++ p7 = q := ⟨_, rfl⟩
    have lq11 := cat_le hq11 lq10 lp7
    clear hb
    go_wp2_with fail
    refine (tb.write q11 (by rw [List.length_append, bts_length]; omega)).mono ?_
    rintro e w8 ⟨rfl, tb2⟩
    clear tb
    have HQ : Hid (bts q11 = Mo.zoneL ⟨1, y, (m : Int), (d : Int), (h : Int), (i : Int), n, s, S, true, o⟩) := Lib.hid (by
     rw [<- hq11, <- hq10, <- hq9, str_add, str_add, str_add, hp6.out, hp7.out, HB1.out, HB2.out, HB.out]
     unfold Mo.zoneL
     rw [if_neg (show ¬ (true = false) by decide), if_neg (show ¬ o = 0 from HZ.out.1), if_neg (show ¬ 0 < o by have := HZ.out.2; omega)]
     simp only [List.append_assoc]; rfl)
    clear hq9 hq10 hq11
    go_wp2_with fail
    refine (tb2.str).mono ?_
    rintro e w9 ⟨rfl, hb⟩
    go_wp2
    go_ret2
    exact ⟨by rw [HF.out (bts q11) HQ.out.symm]; rfl, hb⟩
theorem ptext2 (y : Int) (m d h i : Nat) (n : Bool) (s : ByteArray) (S : Int) (z : Bool) (o : Int) (hO : Mo.Ok ⟨2, y, (m : Int), (d : Int), (h : Int), (i : Int), n, s, S, z, o⟩) (hx : s.size <= 1000000) (w : World) (M : Int) (hV : Vars M w) : Calls Tryz.prog 66 #[(⟨2, y, (m : Int), (d : Int), (h : Int), (i : Int), n, s, S, z, o⟩ : Mo).val] w fun e w' => e = .returned (textV ⟨2, y, (m : Int), (d : Int), (h : Int), (i : Int), n, s, S, z, o⟩) /\ Below w.heap.size w w' := by
 obtain ⟨y0, y1, m0, m1, d0, d1, h0, h1, i0, i1⟩ := ok_low hO
 simp only at y0 y1 m0 m1 d0 d1 h0 h1 i0 i1
 have o0 : -840 <= o := hO.2.1
 have o1 : o <= 840 := hO.2.2.1
 have HO := Lib.hid hO
 have hok : Mo.okB ⟨2, y, (m : Int), (d : Int), (h : Int), (i : Int), n, s, S, z, o⟩ = true := decide_eq_true hO
 obtain ⟨R, hR⟩ : ∃ R, textV ⟨2, y, (m : Int), (d : Int), (h : Int), (i : Int), n, s, S, z, o⟩ = R := ⟨_, rfl⟩
 have HR := Lib.hid hR
 rw [hR]
 clear hO hR
 go_enter Tryz.func66, Tryz.ntmps66
 go_upto_region 1 with (refine wl_boxA rfl (.tmp 0) rfl rfl (fun W2 b2 hb => ?_); have hB := hb; clear hb)
 go_upto_region 3 with (first
  | (refine wl_loadA b2 rfl (by kernel_rfl) _ rfl rfl ?_)
  | (go_at_call 72; refine (pvalid_is ⟨2, y, (m : Int), (d : Int), (h : Int), (i : Int), n, s, S, z, o⟩ hx _ M (hV.next hB)).mono ?_; rw [hok]; rintro e w1 ⟨rfl, hb⟩; replace b2 := b2.keep hb; replace hB := below_step hB hb; clear hb))
 go_upto_region 4 with (refine wl_allocA rfl zero_bd rfl (fun W3 b3 hb => ?_); have l2 := b2.lt; replace b2 := b2.keep hb; have tb : TB w W3 w.heap.size w1.heap.size ⟨2, y, (m : Int), (d : Int), (h : Int), (i : Int), n, s, S, z, o⟩ [] := ⟨b2, .inl ⟨Nat.le_refl _, _, b3, ⟨rfl, .inl ⟨rfl, rfl⟩⟩, by simp [Value.ownBlock]⟩, Nat.le_refl _, l2, Nat.zero_le _, (fun c hc => by cases hc), below_step hB hb⟩; clear hb b2 b3 hB l2)
 have hDl : ([] : List Nat).length <= 100 := Nat.zero_le _
 have hAl : ([] : List Nat).length <= 200 := Nat.zero_le _
 have hsec := (ok_time HO.out (by show (2 : Int) ≠ 1; decide)).1
 obtain ⟨hq1, ⟨c0, r0, e1, e2, _⟩, e4, e5⟩ := sec_txt hsec
 obtain ⟨T, hT⟩ : ∃ T, str (Mo.secQ ⟨2, y, (m : Int), (d : Int), (h : Int), (i : Int), n, s, S, z, o⟩) = T := ⟨_, rfl⟩
 rw [hT] at hq1
 have hTb := Lib.hid (show bts T = Mo.secQ ⟨2, y, (m : Int), (d : Int), (h : Int), (i : Int), n, s, S, z, o⟩ by rw [<- hT]; exact bts_str _ e4)
 have hTl : T.size <= 200 := by rw [<- hT, str_size]; exact e5
 have CT := Lib.hid (ptext_is n s S hx T 0 hq1)
 clear hq1 e1 e2 e4 e5 hT hsec
 go_wp2_with (first | (refine wl_loadC tb.mo rfl (by kernel_rfl) _ rfl (j := 0) (v := .int .i64 2) rfl rfl ?_) | (go_at_call 100; refine (pdated2 _).mono ?_; rintro e w2 ⟨rfl, rfl⟩) | (go_at_call 102; refine (ptimed2 _).mono ?_; rintro e w2 ⟨rfl, rfl⟩) | (refine wl_loadM tb.mo rfl (by kernel_rfl) _ rfl (j := 6) (xs := #[.bool n, .string s, .int .i64 S]) rfl rfl ?_))
 refine (CT.out _).mono ?_
 rintro e w5 ⟨rfl, hb⟩
 replace tb := tb.pass hb
 clear hb CT
 go_wp2_with fail
 refine (cut_any T (by omega) _ (hV.next tb.bel).good).mono ?_
 rintro e w6 ⟨⟨a1, b1, f1, rfl, ha1, hb1⟩, hb⟩
 replace tb := tb.pass hb
 have ha1l : a1.size <= 200 := by rw [<- bts_length, ha1]; exact Nat.le_trans (Dc.whole_length _) (by rw [bts_length]; exact hTl)
 have HA1 := Lib.hid ha1
 clear hb ha1 hb1
 go_upto_if 60 with fail
 go_cut [5] (fun v W => ∃ u : ByteArray, v = .string u /\ u.size <= 201 /\ Hid (bts u = Mo.secL ⟨2, y, (m : Int), (d : Int), (h : Int), (i : Int), n, s, S, z, o⟩) /\ TB w W w.heap.size w1.heap.size ⟨2, y, (m : Int), (d : Int), (h : Int), (i : Int), n, s, S, z, o⟩ ([]))
 case first =>
  by_cases hw : a1.size < 2
  ·have g1 : (a1.size : Int) < 2 := by omega
   have hone : (⟨#[48]⟩ : ByteArray).size <= 1 := Nat.le_refl _
   obtain ⟨u, hu⟩ : ∃ u, ⟨#[48]⟩ ++ T = u := ⟨_, rfl⟩
   have lu := cat_le hu hone hTl
   have HU : Hid (bts u = Mo.secL ⟨2, y, (m : Int), (d : Int), (h : Int), (i : Int), n, s, S, z, o⟩) := Lib.hid (by
    rw [<- hu, str_add, hTb.out]
    have : (Dc.whole (Mo.secQ ⟨2, y, (m : Int), (d : Int), (h : Int), (i : Int), n, s, S, z, o⟩)).length < 2 := by rw [<- hTb.out, <- HA1.out, bts_length]; exact hw
    show _ = if (Dc.whole (Mo.secQ ⟨2, y, (m : Int), (d : Int), (h : Int), (i : Int), n, s, S, z, o⟩)).length < 2 then _ else _
    rw [if_pos this]; rfl)
   clear hw
   go_wp2
   go_meet
   case rel => exact ⟨u, rfl, by omega, HU, tb⟩
  ·have g1 : (2 : Int) <= (a1.size : Int) := by omega
   have HU : Hid (bts T = Mo.secL ⟨2, y, (m : Int), (d : Int), (h : Int), (i : Int), n, s, S, z, o⟩) := Lib.hid (by
    rw [hTb.out]
    have : ¬ (Dc.whole (Mo.secQ ⟨2, y, (m : Int), (d : Int), (h : Int), (i : Int), n, s, S, z, o⟩)).length < 2 := by rw [<- hTb.out, <- HA1.out, bts_length]; exact hw
    show _ = if (Dc.whole (Mo.secQ ⟨2, y, (m : Int), (d : Int), (h : Int), (i : Int), n, s, S, z, o⟩)).length < 2 then _ else _
    rw [if_neg this]; rfl)
   clear hw
   go_wp2
   go_meet
   case rel => exact ⟨T, rfl, by omega, HU, tb⟩
 case rest =>
 clear tb
 obtain ⟨u, rfl, lu, HU, tb⟩ := hcut
 clear HA1 hTb
 go_upto_region 15 with fail
 refine wp_region_held_drew (S := fun W : World => Blk W w.heap.size 26 (Mo.list ⟨2, y, (m : Int), (d : Int), (h : Int), (i : Int), n, s, S, z, o⟩).toArray) (by kernel_rfl) tb.mo.drew (fun hS => ?_)
 replace tb := tb.pass (below_drew _)
 refine takeE (i := 0) (d := some 63) (v := ?v1) rfl rfl (Or.inl ⟨by rfl, ?h1⟩) hS ?_
 case h1 => intro W _; go_simp; first | done | with_reducible rfl | (rw [if_neg (by omega)])
 simp only [Act.put, zA, zB, zC]
 refine takeE (i := 1) (d := some 64) (v := .int .i64 (h : Int)) rfl rfl (yields_C rfl (by rfl) (by kernel_rfl) _ rfl (j := 4) rfl rfl (fun W hW => hW)) hS ?_
 simp only [Act.put, zA, zB, zC]
 refine takeE (i := 4) (d := some 67) (v := ?v2) rfl rfl (Or.inl ⟨by rfl, ?h2⟩) hS ?_
 case h2 => intro W _; go_simp; first | done | with_reducible rfl | (rw [if_neg (by omega)])
 simp only [Act.put, zA, zB, zC]
 refine takeE (i := 5) (d := some 68) (v := .int .i64 (i : Int)) rfl rfl (yields_C rfl (by rfl) (by kernel_rfl) _ rfl (j := 5) rfl rfl (fun W hW => hW)) hS ?_
 simp only [Act.put, zA, zB, zC]
 refine takeE (i := 9) (d := some 72) (v := ?v3) rfl rfl (Or.inl ⟨by rfl, ?h3⟩) hS ?_
 case h3 => intro W _; go_simp; first | done | with_reducible rfl | (rw [if_neg (by omega)])
 simp only [Act.put, zA, zB, zC]
 refine ready1 (i := 2) rfl (fun Kc hKc => ?_)
 go_simp
 refine (ppadded_v h 2 (by decide) (by omega) (by decide) _ (hV.next tb.bel).pow).mono ?_
 rintro e p4w ⟨p4, rfl, hp4, lp4, hb⟩
 replace tb := tb.pass hb
 refine hKc.out _ _ (hS.keep hb) (fun hS => ?_)
 clear hKc Kc hb
 obtain ⟨q5, hq5⟩ : ∃ q, p4 ++ ⟨#[58]⟩ = q := ⟨_, rfl⟩
 have lq5 := cat_le hq5 lp4 (Nat.le_refl 1)
 refine takeE (i := 3) (d := some 66) (v := ?v4) rfl rfl (Or.inl ⟨by rfl, ?h4⟩) hS ?_
 case h4 => intro W _; go_simp; first | done | with_reducible rfl | (rw [if_neg (by omega)])
 simp only [Act.put, zA, zB, zC]
 refine ready1 (i := 6) rfl (fun Kc hKc => ?_)
 go_simp
 refine (ppadded_v i 2 (by decide) (by omega) (by decide) _ (hV.next tb.bel).pow).mono ?_
 rintro e p5w ⟨p5, rfl, hp5, lp5, hb⟩
 replace tb := tb.pass hb
 refine hKc.out _ _ (hS.keep hb) (fun hS => ?_)
 clear hKc Kc hb
 obtain ⟨q6, hq6⟩ : ∃ q, q5 ++ p5 = q := ⟨_, rfl⟩
 have lq6 := cat_le hq6 lq5 lp5
 refine takeE (i := 7) (d := some 70) (v := ?v5) rfl rfl (Or.inl ⟨by rfl, ?h5⟩) hS ?_
 case h5 => intro W _; go_simp; first | done | with_reducible rfl | (rw [if_neg (by omega)])
 simp only [Act.put, zA, zB, zC]
 obtain ⟨q7, hq7⟩ : ∃ q, q6 ++ ⟨#[58]⟩ = q := ⟨_, rfl⟩
 have lq7 := cat_le hq7 lq6 (Nat.le_refl 1)
 refine takeE (i := 8) (d := some 71) (v := ?v6) rfl rfl (Or.inl ⟨by rfl, ?h6⟩) hS ?_
 case h6 => intro W _; go_simp; first | done | with_reducible rfl | (rw [if_neg (by omega)])
 simp only [Act.put, zA, zB, zC]
 obtain ⟨q8, hq8⟩ : ∃ q, q7 ++ u = q := ⟨_, rfl⟩
 have lq8 := cat_le hq8 lq7 lu
 refine takeE (i := 10) (d := some 73) (v := ?v7) rfl rfl (Or.inl ⟨by rfl, ?h7⟩) hS ?_
 case h7 => intro W _; go_simp; first | done | with_reducible rfl | (rw [if_neg (by omega)])
 simp only [Act.put, zA, zB, zC]
 refine ready1 (i := 11) rfl (fun Kc hKc => ?_)
 go_simp
 refine (tb.write q8 (by rw [List.length_append, bts_length]; omega)).mono ?_
 rintro e q8w ⟨rfl, tb4⟩
 refine hKc.out _ _ tb4.mo (fun hS => ?_)
 clear hKc Kc tb hS
 refine wpAnyH_done (by kernel_rfl) ?_ _
 have tb := tb4.as (B := Mo.timeL ⟨2, y, (m : Int), (d : Int), (h : Int), (i : Int), n, s, S, z, o⟩) (by rw [<- hq8, <- hq7, <- hq6, <- hq5, str_add, str_add, str_add, str_add, hp4.out, hp5.out, HU.out]; unfold Mo.timeL; simp only [List.append_assoc]; rfl)
 clear tb4
 clear hq5 hq6 hq7 hq8 hp4 hp5 HU
 obtain ⟨E, hE⟩ : ∃ E : List Nat, E = Mo.timeL ⟨2, y, (m : Int), (d : Int), (h : Int), (i : Int), n, s, S, z, o⟩ := ⟨_, rfl⟩
 replace tb := tb.as hE.symm
 have hEl : E.length <= 900 := by rw [hE]; exact Nat.le_trans (time_length HO.out (by show (2 : Int) ≠ 1; decide)) (by decide)
 have HF : Hid (∀ Z, Mo.zoneL ⟨2, y, (m : Int), (d : Int), (h : Int), (i : Int), n, s, S, z, o⟩ = Z -> R = .tuple #[.string (str (E ++ Z)), .int .i64 0]) := Lib.hid (fun Z hZ => by
  rw [<- HR.out, <- hZ]
  refine (textV_ok HO.out ?_).symm
  rw [hE]
  skip
  unfold Mo.textL
  simp)
 clear hE
 obtain ⟨b, hb⟩ : ∃ b : Nat, b = o.natAbs := ⟨_, rfl⟩
 have hbx : max o (-o) = (b : Int) := by omega
 have hbx2 : max o (IntKind.i64.wrap (-o)) = (b : Int) := by rw [w64 (by omega) (by omega)]; omega
 have hb8 : b <= 840 := by omega
 have HB := Lib.hid hb
 clear hb HO HR hok
 obtain ⟨b1, hb1⟩ : ∃ b1 : Nat, b1 = b / 60 := ⟨_, rfl⟩
 obtain ⟨b2, hb2⟩ : ∃ b2 : Nat, b2 = b % 60 := ⟨_, rfl⟩
 have hbd : (b : Int).tdiv 60 = (b1 : Int) := by rw [Int.tdiv_eq_ediv_of_nonneg (by omega)]; omega
 have hbm : (b : Int).tmod 60 = (b2 : Int) := by rw [Int.tmod_eq_emod_of_nonneg (by omega)]; omega
 have hb1l : b1 <= 14 := by omega
 have hb2l : b2 <= 59 := by omega
 have HB1 := Lib.hid hb1
 have HB2 := Lib.hid hb2
 clear hb1 hb2
 cases z with
 | false =>
  go_wp2_with (first | (refine wl_loadC tb.mo rfl (by kernel_rfl) _ rfl (j := 0) (v := .int .i64 2) rfl rfl ?_) | (go_at_call 100; refine (pdated2 _).mono ?_; rintro e w2 ⟨rfl, rfl⟩) | (go_at_call 102; refine (ptimed2 _).mono ?_; rintro e w2 ⟨rfl, rfl⟩) | (refine wl_loadC tb.mo rfl (by kernel_rfl) _ rfl (j := 10) (v := .int .i64 o) rfl rfl ?_) | (refine wl_loadC tb.mo rfl (by kernel_rfl) _ rfl (j := 9) (v := .bool false) rfl rfl ?_))
  refine (tb.str).mono ?_
  rintro e w9 ⟨rfl, hb⟩
  go_wp2
  go_ret2
  exact ⟨by rw [HF.out [] rfl, List.append_nil]; rfl, hb⟩
 | true =>
  by_cases hz : b = 0
  ·have g1 : ((b : Int) == 0) = true := by rw [hz]; rfl
   have ho : o = 0 := by omega
   have HZ := Lib.hid ho
   clear hz ho
   go_wp2_with (first | (refine wl_loadC tb.mo rfl (by kernel_rfl) _ rfl (j := 0) (v := .int .i64 2) rfl rfl ?_) | (go_at_call 100; refine (pdated2 _).mono ?_; rintro e w2 ⟨rfl, rfl⟩) | (go_at_call 102; refine (ptimed2 _).mono ?_; rintro e w2 ⟨rfl, rfl⟩) | (refine wl_loadC tb.mo rfl (by kernel_rfl) _ rfl (j := 10) (v := .int .i64 o) rfl rfl ?_) | (refine wl_loadC tb.mo rfl (by kernel_rfl) _ rfl (j := 9) (v := .bool true) rfl rfl ?_))
   refine (tb.write ⟨#[90]⟩ (by rw [List.length_append]; show _ + 1 <= 1000; omega)).mono ?_
   rintro e w8 ⟨rfl, tb2⟩
   clear tb
   go_wp2_with fail
   refine (tb2.str).mono ?_
   rintro e w9 ⟨rfl, hb⟩
   go_wp2
   go_ret2
   exact ⟨by rw [HF.out [90] (by unfold Mo.zoneL; rw [if_neg (show ¬ (true = false) by decide), if_pos HZ.out])]; rfl, hb⟩
  ·have g1 : ((b : Int) == 0) = false := beq_no hz
   by_cases hp : 0 < o
   ·have g2 : decide (0 < o) = true := decide_eq_true hp
    have HZ : Hid (o ≠ 0 /\ 0 < o) := Lib.hid ⟨by omega, hp⟩
    clear hz hp
    have hone : (⟨#[43]⟩ : ByteArray).size <= 1 := Nat.le_refl _
    have htwo : (⟨#[58]⟩ : ByteArray).size <= 1 := Nat.le_refl _
    go_wp2_with (first | (refine wl_loadC tb.mo rfl (by kernel_rfl) _ rfl (j := 0) (v := .int .i64 2) rfl rfl ?_) | (go_at_call 100; refine (pdated2 _).mono ?_; rintro e w2 ⟨rfl, rfl⟩) | (go_at_call 102; refine (ptimed2 _).mono ?_; rintro e w2 ⟨rfl, rfl⟩) | (refine wl_loadC tb.mo rfl (by kernel_rfl) _ rfl (j := 10) (v := .int .i64 o) rfl rfl ?_) | (refine wl_loadC tb.mo rfl (by kernel_rfl) _ rfl (j := 9) (v := .bool true) rfl rfl ?_))
    refine (ppadded_v b1 2 (by decide) (by omega) (by decide) _ (hV.next tb.bel).pow).mono ?_
    rintro e w6 ⟨p6, rfl, hp6, lp6, hb⟩
    replace tb := tb.pass hb
    obtain ⟨q9, hq9⟩ : ∃ q, ⟨#[43]⟩ ++ p6 = q := ⟨_, rfl⟩
    have lq9 := cat_le hq9 hone lp6
    obtain ⟨q10, hq10⟩ : ∃ q, q9 ++ ⟨#[58]⟩ = q := ⟨_, rfl⟩
    have lq10 := cat_le hq10 lq9 htwo
    clear hb
    go_wp2_with fail
    refine (ppadded_v b2 2 (by decide) (by omega) (by decide) _ (hV.next tb.bel).pow).mono ?_
    rintro e w7 ⟨p7, rfl, hp7, lp7, hb⟩
    replace tb := tb.pass hb
    obtain ⟨q11, hq11⟩ : ∃ q, q10 ++ p7 = q := ⟨_, rfl⟩
    have lq11 := cat_le hq11 lq10 lp7
    clear hb
    go_wp2_with fail
    refine (tb.write q11 (by rw [List.length_append, bts_length]; omega)).mono ?_
    rintro e w8 ⟨rfl, tb2⟩
    clear tb
    have HQ : Hid (bts q11 = Mo.zoneL ⟨2, y, (m : Int), (d : Int), (h : Int), (i : Int), n, s, S, true, o⟩) := Lib.hid (by
     rw [<- hq11, <- hq10, <- hq9, str_add, str_add, str_add, hp6.out, hp7.out, HB1.out, HB2.out, HB.out]
     unfold Mo.zoneL
     rw [if_neg (show ¬ (true = false) by decide), if_neg (show ¬ o = 0 from HZ.out.1), if_pos (show 0 < o by have := HZ.out.2; omega)]
     simp only [List.append_assoc]; rfl)
    clear hq9 hq10 hq11
    go_wp2_with fail
    refine (tb2.str).mono ?_
    rintro e w9 ⟨rfl, hb⟩
    go_wp2
    go_ret2
    exact ⟨by rw [HF.out (bts q11) HQ.out.symm]; rfl, hb⟩
   ·have g2 : decide (0 < o) = false := decide_eq_false hp
    have HZ : Hid (o ≠ 0 /\ ¬ 0 < o) := Lib.hid ⟨by omega, hp⟩
    clear hz hp
    have hone : (⟨#[45]⟩ : ByteArray).size <= 1 := Nat.le_refl _
    have htwo : (⟨#[58]⟩ : ByteArray).size <= 1 := Nat.le_refl _
    go_wp2_with (first | (refine wl_loadC tb.mo rfl (by kernel_rfl) _ rfl (j := 0) (v := .int .i64 2) rfl rfl ?_) | (go_at_call 100; refine (pdated2 _).mono ?_; rintro e w2 ⟨rfl, rfl⟩) | (go_at_call 102; refine (ptimed2 _).mono ?_; rintro e w2 ⟨rfl, rfl⟩) | (refine wl_loadC tb.mo rfl (by kernel_rfl) _ rfl (j := 10) (v := .int .i64 o) rfl rfl ?_) | (refine wl_loadC tb.mo rfl (by kernel_rfl) _ rfl (j := 9) (v := .bool true) rfl rfl ?_))
    refine (ppadded_v b1 2 (by decide) (by omega) (by decide) _ (hV.next tb.bel).pow).mono ?_
    rintro e w6 ⟨p6, rfl, hp6, lp6, hb⟩
    replace tb := tb.pass hb
    obtain ⟨q9, hq9⟩ : ∃ q, ⟨#[45]⟩ ++ p6 = q := ⟨_, rfl⟩
    have lq9 := cat_le hq9 hone lp6
    obtain ⟨q10, hq10⟩ : ∃ q, q9 ++ ⟨#[58]⟩ = q := ⟨_, rfl⟩
    have lq10 := cat_le hq10 lq9 htwo
    clear hb
    go_wp2_with fail
    refine (ppadded_v b2 2 (by decide) (by omega) (by decide) _ (hV.next tb.bel).pow).mono ?_
    rintro e w7 ⟨p7, rfl, hp7, lp7, hb⟩
    replace tb := tb.pass hb
    obtain ⟨q11, hq11⟩ : ∃ q, q10 ++ p7 = q := ⟨_, rfl⟩
    have lq11 := cat_le hq11 lq10 lp7
    clear hb
    go_wp2_with fail
    refine (tb.write q11 (by rw [List.length_append, bts_length]; omega)).mono ?_
    rintro e w8 ⟨rfl, tb2⟩
    clear tb
    have HQ : Hid (bts q11 = Mo.zoneL ⟨2, y, (m : Int), (d : Int), (h : Int), (i : Int), n, s, S, true, o⟩) := Lib.hid (by
     rw [<- hq11, <- hq10, <- hq9, str_add, str_add, str_add, hp6.out, hp7.out, HB1.out, HB2.out, HB.out]
     unfold Mo.zoneL
     rw [if_neg (show ¬ (true = false) by decide), if_neg (show ¬ o = 0 from HZ.out.1), if_neg (show ¬ 0 < o by have := HZ.out.2; omega)]
     simp only [List.append_assoc]; rfl)
    clear hq9 hq10 hq11
    go_wp2_with fail
    refine (tb2.str).mono ?_
    rintro e w9 ⟨rfl, hb⟩
    go_wp2
    go_ret2
    exact ⟨by rw [HF.out (bts q11) HQ.out.symm]; rfl, hb⟩
theorem ptext3 (y : Int) (m d h i : Nat) (n : Bool) (s : ByteArray) (S : Int) (z : Bool) (o : Int) (hO : Mo.Ok ⟨3, y, (m : Int), (d : Int), (h : Int), (i : Int), n, s, S, z, o⟩) (hx : s.size <= 1000000) (w : World) (M : Int) (hV : Vars M w) : Calls Tryz.prog 66 #[(⟨3, y, (m : Int), (d : Int), (h : Int), (i : Int), n, s, S, z, o⟩ : Mo).val] w fun e w' => e = .returned (textV ⟨3, y, (m : Int), (d : Int), (h : Int), (i : Int), n, s, S, z, o⟩) /\ Below w.heap.size w w' := by
 obtain ⟨y0, y1, m0, m1, d0, d1, h0, h1, i0, i1⟩ := ok_low hO
 simp only at y0 y1 m0 m1 d0 d1 h0 h1 i0 i1
 have o0 : -840 <= o := hO.2.1
 have o1 : o <= 840 := hO.2.2.1
 have HO := Lib.hid hO
 have hok : Mo.okB ⟨3, y, (m : Int), (d : Int), (h : Int), (i : Int), n, s, S, z, o⟩ = true := decide_eq_true hO
 obtain ⟨R, hR⟩ : ∃ R, textV ⟨3, y, (m : Int), (d : Int), (h : Int), (i : Int), n, s, S, z, o⟩ = R := ⟨_, rfl⟩
 have HR := Lib.hid hR
 rw [hR]
 clear hO hR
 go_enter Tryz.func66, Tryz.ntmps66
 go_upto_region 1 with (refine wl_boxA rfl (.tmp 0) rfl rfl (fun W2 b2 hb => ?_); have hB := hb; clear hb)
 go_upto_region 3 with (first
  | (refine wl_loadA b2 rfl (by kernel_rfl) _ rfl rfl ?_)
  | (go_at_call 72; refine (pvalid_is ⟨3, y, (m : Int), (d : Int), (h : Int), (i : Int), n, s, S, z, o⟩ hx _ M (hV.next hB)).mono ?_; rw [hok]; rintro e w1 ⟨rfl, hb⟩; replace b2 := b2.keep hb; replace hB := below_step hB hb; clear hb))
 go_upto_region 4 with (refine wl_allocA rfl zero_bd rfl (fun W3 b3 hb => ?_); have l2 := b2.lt; replace b2 := b2.keep hb; have tb : TB w W3 w.heap.size w1.heap.size ⟨3, y, (m : Int), (d : Int), (h : Int), (i : Int), n, s, S, z, o⟩ [] := ⟨b2, .inl ⟨Nat.le_refl _, _, b3, ⟨rfl, .inl ⟨rfl, rfl⟩⟩, by simp [Value.ownBlock]⟩, Nat.le_refl _, l2, Nat.zero_le _, (fun c hc => by cases hc), below_step hB hb⟩; clear hb b2 b3 hB l2)
 go_upto_if 19 with (first
  | (refine wl_loadC tb.mo rfl (by kernel_rfl) _ rfl (j := 0) (v := .int .i64 3) rfl rfl ?_)
  | (go_at_call 100; refine (pdated3 _).mono ?_; rintro e w2 ⟨rfl, rfl⟩)
  | (refine wl_loadC tb.mo rfl (by kernel_rfl) _ rfl (j := 1) (v := .int .i64 y) rfl rfl ?_))
 obtain ⟨N, hN⟩ : ∃ N : List Nat, N = (if y < 0 then [45] else []) := ⟨_, rfl⟩
 have hNl : N.length <= 1 := by rw [hN]; split <;> decide
 have HN := Lib.hid hN
 clear hN
 go_cut [] (fun W => TB w W w.heap.size w1.heap.size ⟨3, y, (m : Int), (d : Int), (h : Int), (i : Int), n, s, S, z, o⟩ (N))
 case first =>
  by_cases hy : y < 0
  ·have g1 : decide (y < 0) = true := decide_eq_true hy
   go_wp2_with fail
   refine (tb.write ⟨#[45]⟩ (by decide)).mono ?_
   rintro e w2 ⟨rfl, tb2⟩
   clear tb
   go_wp2
   go_meet
   case rel => exact tb2.as (by rw [HN.out, if_pos (by omega)]; rfl)
  ·have g1 : decide (y < 0) = false := decide_eq_false hy
   go_wp2
   go_meet
   case rel => exact tb.as (by rw [HN.out, if_neg (by omega)])
 case rest =>
 clear tb
 have tb := hcut
 clear hcut
 obtain ⟨a, ha⟩ : ∃ a : Nat, a = y.natAbs := ⟨_, rfl⟩
 have hmx : max y (IntKind.i64.wrap (-y)) = (a : Int) := by rw [w64 (by omega) (by omega)]; omega
 have ha4 : a <= 9999 := by omega
 have HA := Lib.hid ha
 clear ha
 go_upto_region 7 with fail
 refine wp_region_held_drew (S := fun W : World => Blk W w.heap.size 26 (Mo.list ⟨3, y, (m : Int), (d : Int), (h : Int), (i : Int), n, s, S, z, o⟩).toArray) (by kernel_rfl) tb.mo.drew (fun hS => ?_)
 replace tb := tb.pass (below_drew _)
 refine takeE (i := 0) (d := some 21) (v := ?v1) rfl rfl (Or.inl ⟨by rfl, ?h1⟩) hS ?_
 case h1 => intro W _; go_simp; first | done | with_reducible rfl | (rw [if_neg (by omega)])
 simp only [Act.put, zA, zB, zC]
 refine takeE (i := 1) (d := some 22) (v := .int .i64 y) rfl rfl (yields_C rfl (by rfl) (by kernel_rfl) _ rfl (j := 1) rfl rfl (fun W hW => hW)) hS ?_
 simp only [Act.put, zA, zB, zC]
 refine takeE (i := 2) (d := some 23) (v := ?v2) rfl rfl (Or.inl ⟨by rfl, ?h2⟩) hS ?_
 case h2 => intro W _; go_simp; first | done | with_reducible rfl | (rw [if_neg (by omega)])
 simp only [Act.put, zA, zB, zC]
 refine takeE (i := 3) (d := some 24) (v := .int .i64 y) rfl rfl (yields_C rfl (by rfl) (by kernel_rfl) _ rfl (j := 1) rfl rfl (fun W hW => hW)) hS ?_
 simp only [Act.put, zA, zB, zC]
 refine takeE (i := 4) (d := some 25) (v := ?v3) rfl rfl (Or.inl ⟨by rfl, ?h3⟩) hS ?_
 case h3 => intro W _; go_simp; first | done | with_reducible rfl | (rw [if_neg (by omega)])
 simp only [Act.put, zA, zB, zC]
 refine takeE (i := 5) (d := some 26) (v := ?v4) rfl rfl (Or.inl ⟨by rfl, ?h4⟩) hS ?_
 case h4 => intro W _; go_simp; first | done | with_reducible rfl | (rw [if_neg (by omega)])
 simp only [Act.put, zA, zB, zC]
 refine takeE (i := 8) (d := some 29) (v := ?v5) rfl rfl (Or.inl ⟨by rfl, ?h5⟩) hS ?_
 case h5 => intro W _; go_simp; first | done | with_reducible rfl | (rw [if_neg (by omega)])
 simp only [Act.put, zA, zB, zC]
 refine takeE (i := 9) (d := some 30) (v := .int .i64 (m : Int)) rfl rfl (yields_C rfl (by rfl) (by kernel_rfl) _ rfl (j := 2) rfl rfl (fun W hW => hW)) hS ?_
 simp only [Act.put, zA, zB, zC]
 refine takeE (i := 13) (d := some 34) (v := ?v6) rfl rfl (Or.inl ⟨by rfl, ?h6⟩) hS ?_
 case h6 => intro W _; go_simp; first | done | with_reducible rfl | (rw [if_neg (by omega)])
 simp only [Act.put, zA, zB, zC]
 refine takeE (i := 14) (d := some 35) (v := .int .i64 (d : Int)) rfl rfl (yields_C rfl (by rfl) (by kernel_rfl) _ rfl (j := 3) rfl rfl (fun W hW => hW)) hS ?_
 simp only [Act.put, zA, zB, zC]
 refine ready1 (i := 6) rfl (fun Kc hKc => ?_)
 go_simp
 refine (ppadded_v a 4 (by decide) (by omega) (by decide) _ (hV.next tb.bel).pow).mono ?_
 rintro e p1w ⟨p1, rfl, hp1, lp1, hb⟩
 replace tb := tb.pass hb
 refine hKc.out _ _ (hS.keep hb) (fun hS => ?_)
 clear hKc Kc hb
 obtain ⟨q1, hq1⟩ : ∃ q, p1 ++ ⟨#[45]⟩ = q := ⟨_, rfl⟩
 have lq1 := cat_le hq1 lp1 (Nat.le_refl 1)
 refine takeE (i := 7) (d := some 28) (v := ?v7) rfl rfl (Or.inl ⟨by rfl, ?h7⟩) hS ?_
 case h7 => intro W _; go_simp; first | done | with_reducible rfl | (rw [if_neg (by omega)])
 simp only [Act.put, zA, zB, zC]
 refine ready1 (i := 10) rfl (fun Kc hKc => ?_)
 go_simp
 refine (ppadded_v m 2 (by decide) (by omega) (by decide) _ (hV.next tb.bel).pow).mono ?_
 rintro e p2w ⟨p2, rfl, hp2, lp2, hb⟩
 replace tb := tb.pass hb
 refine hKc.out _ _ (hS.keep hb) (fun hS => ?_)
 clear hKc Kc hb
 obtain ⟨q2, hq2⟩ : ∃ q, q1 ++ p2 = q := ⟨_, rfl⟩
 have lq2 := cat_le hq2 lq1 lp2
 refine takeE (i := 11) (d := some 32) (v := ?v8) rfl rfl (Or.inl ⟨by rfl, ?h8⟩) hS ?_
 case h8 => intro W _; go_simp; first | done | with_reducible rfl | (rw [if_neg (by omega)])
 simp only [Act.put, zA, zB, zC]
 obtain ⟨q3, hq3⟩ : ∃ q, q2 ++ ⟨#[45]⟩ = q := ⟨_, rfl⟩
 have lq3 := cat_le hq3 lq2 (Nat.le_refl 1)
 refine takeE (i := 12) (d := some 33) (v := ?v9) rfl rfl (Or.inl ⟨by rfl, ?h9⟩) hS ?_
 case h9 => intro W _; go_simp; first | done | with_reducible rfl | (rw [if_neg (by omega)])
 simp only [Act.put, zA, zB, zC]
 refine ready1 (i := 15) rfl (fun Kc hKc => ?_)
 go_simp
 refine (ppadded_v d 2 (by decide) (by omega) (by decide) _ (hV.next tb.bel).pow).mono ?_
 rintro e p3w ⟨p3, rfl, hp3, lp3, hb⟩
 replace tb := tb.pass hb
 refine hKc.out _ _ (hS.keep hb) (fun hS => ?_)
 clear hKc Kc hb
 obtain ⟨q4, hq4⟩ : ∃ q, q3 ++ p3 = q := ⟨_, rfl⟩
 have lq4 := cat_le hq4 lq3 lp3
 refine takeE (i := 16) (d := some 37) (v := ?v10) rfl rfl (Or.inl ⟨by rfl, ?h10⟩) hS ?_
 case h10 => intro W _; go_simp; first | done | with_reducible rfl | (rw [if_neg (by omega)])
 simp only [Act.put, zA, zB, zC]
 refine ready1 (i := 17) rfl (fun Kc hKc => ?_)
 go_simp
 refine (tb.write q4 (by rw [List.length_append, bts_length]; omega)).mono ?_
 rintro e q4w ⟨rfl, tb4⟩
 refine hKc.out _ _ tb4.mo (fun hS => ?_)
 clear hKc Kc tb hS
 refine wpAnyH_done (by kernel_rfl) ?_ _
 have tb := tb4.as (B := Mo.dateL ⟨3, y, (m : Int), (d : Int), (h : Int), (i : Int), n, s, S, z, o⟩) (by rw [HN.out, <- hq4, <- hq3, <- hq2, <- hq1, str_add, str_add, str_add, str_add, hp1.out, hp2.out, hp3.out, HA.out]; unfold Mo.dateL; simp only [List.append_assoc]; rfl)
 clear tb4
 clear hq1 hq2 hq3 hq4 lq1 lq2 lq3 lq4 hp1 hp2 hp3 lp1 lp2 lp3 hmx HN HA
 obtain ⟨D, hD⟩ : ∃ D : List Nat, D = Mo.dateL ⟨3, y, (m : Int), (d : Int), (h : Int), (i : Int), n, s, S, z, o⟩ := ⟨_, rfl⟩
 replace tb := tb.as hD.symm
 have HD := Lib.hid hD
 have hDl : D.length <= 100 := by rw [hD]; exact date_length HO.out
 clear hD
 go_wp2_with (first | (refine wl_loadC tb.mo rfl (by kernel_rfl) _ rfl (j := 0) (v := .int .i64 3) rfl rfl ?_) | (go_at_call 100; refine (pdated3 _).mono ?_; rintro e w2 ⟨rfl, rfl⟩))
 refine (tb.write ⟨#[84]⟩ (by rw [List.length_append]; show _ + 1 <= 1000; omega)).mono ?_
 rintro e w2 ⟨rfl, tb2⟩
 clear tb
 have tb := tb2
 clear tb2
 have hAl : (D ++ bts ⟨#[84]⟩).length <= 200 := by rw [List.length_append]; show _ + 1 <= 200; omega
 have hsec := (ok_time HO.out (by show (3 : Int) ≠ 1; decide)).1
 obtain ⟨hq1, ⟨c0, r0, e1, e2, _⟩, e4, e5⟩ := sec_txt hsec
 obtain ⟨T, hT⟩ : ∃ T, str (Mo.secQ ⟨3, y, (m : Int), (d : Int), (h : Int), (i : Int), n, s, S, z, o⟩) = T := ⟨_, rfl⟩
 rw [hT] at hq1
 have hTb := Lib.hid (show bts T = Mo.secQ ⟨3, y, (m : Int), (d : Int), (h : Int), (i : Int), n, s, S, z, o⟩ by rw [<- hT]; exact bts_str _ e4)
 have hTl : T.size <= 200 := by rw [<- hT, str_size]; exact e5
 have CT := Lib.hid (ptext_is n s S hx T 0 hq1)
 clear hq1 e1 e2 e4 e5 hT hsec
 go_wp2_with (first | (refine wl_loadC tb.mo rfl (by kernel_rfl) _ rfl (j := 0) (v := .int .i64 3) rfl rfl ?_) | (go_at_call 100; refine (pdated3 _).mono ?_; rintro e w2 ⟨rfl, rfl⟩) | (go_at_call 102; refine (ptimed3 _).mono ?_; rintro e w2 ⟨rfl, rfl⟩) | (refine wl_loadM tb.mo rfl (by kernel_rfl) _ rfl (j := 6) (xs := #[.bool n, .string s, .int .i64 S]) rfl rfl ?_))
 refine (CT.out _).mono ?_
 rintro e w5 ⟨rfl, hb⟩
 replace tb := tb.pass hb
 clear hb CT
 go_wp2_with fail
 refine (cut_any T (by omega) _ (hV.next tb.bel).good).mono ?_
 rintro e w6 ⟨⟨a1, b1, f1, rfl, ha1, hb1⟩, hb⟩
 replace tb := tb.pass hb
 have ha1l : a1.size <= 200 := by rw [<- bts_length, ha1]; exact Nat.le_trans (Dc.whole_length _) (by rw [bts_length]; exact hTl)
 have HA1 := Lib.hid ha1
 clear hb ha1 hb1
 go_upto_if 60 with fail
 go_cut [5] (fun v W => ∃ u : ByteArray, v = .string u /\ u.size <= 201 /\ Hid (bts u = Mo.secL ⟨3, y, (m : Int), (d : Int), (h : Int), (i : Int), n, s, S, z, o⟩) /\ TB w W w.heap.size w1.heap.size ⟨3, y, (m : Int), (d : Int), (h : Int), (i : Int), n, s, S, z, o⟩ (D ++ bts ⟨#[84]⟩))
 case first =>
  by_cases hw : a1.size < 2
  ·have g1 : (a1.size : Int) < 2 := by omega
   have hone : (⟨#[48]⟩ : ByteArray).size <= 1 := Nat.le_refl _
   obtain ⟨u, hu⟩ : ∃ u, ⟨#[48]⟩ ++ T = u := ⟨_, rfl⟩
   have lu := cat_le hu hone hTl
   have HU : Hid (bts u = Mo.secL ⟨3, y, (m : Int), (d : Int), (h : Int), (i : Int), n, s, S, z, o⟩) := Lib.hid (by
    rw [<- hu, str_add, hTb.out]
    have : (Dc.whole (Mo.secQ ⟨3, y, (m : Int), (d : Int), (h : Int), (i : Int), n, s, S, z, o⟩)).length < 2 := by rw [<- hTb.out, <- HA1.out, bts_length]; exact hw
    show _ = if (Dc.whole (Mo.secQ ⟨3, y, (m : Int), (d : Int), (h : Int), (i : Int), n, s, S, z, o⟩)).length < 2 then _ else _
    rw [if_pos this]; rfl)
   clear hw
   go_wp2
   go_meet
   case rel => exact ⟨u, rfl, by omega, HU, tb⟩
  ·have g1 : (2 : Int) <= (a1.size : Int) := by omega
   have HU : Hid (bts T = Mo.secL ⟨3, y, (m : Int), (d : Int), (h : Int), (i : Int), n, s, S, z, o⟩) := Lib.hid (by
    rw [hTb.out]
    have : ¬ (Dc.whole (Mo.secQ ⟨3, y, (m : Int), (d : Int), (h : Int), (i : Int), n, s, S, z, o⟩)).length < 2 := by rw [<- hTb.out, <- HA1.out, bts_length]; exact hw
    show _ = if (Dc.whole (Mo.secQ ⟨3, y, (m : Int), (d : Int), (h : Int), (i : Int), n, s, S, z, o⟩)).length < 2 then _ else _
    rw [if_neg this]; rfl)
   clear hw
   go_wp2
   go_meet
   case rel => exact ⟨T, rfl, by omega, HU, tb⟩
 case rest =>
 clear tb
 obtain ⟨u, rfl, lu, HU, tb⟩ := hcut
 clear HA1 hTb
 go_upto_region 15 with fail
 refine wp_region_held_drew (S := fun W : World => Blk W w.heap.size 26 (Mo.list ⟨3, y, (m : Int), (d : Int), (h : Int), (i : Int), n, s, S, z, o⟩).toArray) (by kernel_rfl) tb.mo.drew (fun hS => ?_)
 replace tb := tb.pass (below_drew _)
 refine takeE (i := 0) (d := some 63) (v := ?v11) rfl rfl (Or.inl ⟨by rfl, ?h11⟩) hS ?_
 case h11 => intro W _; go_simp; first | done | with_reducible rfl | (rw [if_neg (by omega)])
 simp only [Act.put, zA, zB, zC]
 refine takeE (i := 1) (d := some 64) (v := .int .i64 (h : Int)) rfl rfl (yields_C rfl (by rfl) (by kernel_rfl) _ rfl (j := 4) rfl rfl (fun W hW => hW)) hS ?_
 simp only [Act.put, zA, zB, zC]
 refine takeE (i := 4) (d := some 67) (v := ?v12) rfl rfl (Or.inl ⟨by rfl, ?h12⟩) hS ?_
 case h12 => intro W _; go_simp; first | done | with_reducible rfl | (rw [if_neg (by omega)])
 simp only [Act.put, zA, zB, zC]
 refine takeE (i := 5) (d := some 68) (v := .int .i64 (i : Int)) rfl rfl (yields_C rfl (by rfl) (by kernel_rfl) _ rfl (j := 5) rfl rfl (fun W hW => hW)) hS ?_
 simp only [Act.put, zA, zB, zC]
 refine takeE (i := 9) (d := some 72) (v := ?v13) rfl rfl (Or.inl ⟨by rfl, ?h13⟩) hS ?_
 case h13 => intro W _; go_simp; first | done | with_reducible rfl | (rw [if_neg (by omega)])
 simp only [Act.put, zA, zB, zC]
 refine ready1 (i := 2) rfl (fun Kc hKc => ?_)
 go_simp
 refine (ppadded_v h 2 (by decide) (by omega) (by decide) _ (hV.next tb.bel).pow).mono ?_
 rintro e p4w ⟨p4, rfl, hp4, lp4, hb⟩
 replace tb := tb.pass hb
 refine hKc.out _ _ (hS.keep hb) (fun hS => ?_)
 clear hKc Kc hb
 obtain ⟨q5, hq5⟩ : ∃ q, p4 ++ ⟨#[58]⟩ = q := ⟨_, rfl⟩
 have lq5 := cat_le hq5 lp4 (Nat.le_refl 1)
 refine takeE (i := 3) (d := some 66) (v := ?v14) rfl rfl (Or.inl ⟨by rfl, ?h14⟩) hS ?_
 case h14 => intro W _; go_simp; first | done | with_reducible rfl | (rw [if_neg (by omega)])
 simp only [Act.put, zA, zB, zC]
 refine ready1 (i := 6) rfl (fun Kc hKc => ?_)
 go_simp
 refine (ppadded_v i 2 (by decide) (by omega) (by decide) _ (hV.next tb.bel).pow).mono ?_
 rintro e p5w ⟨p5, rfl, hp5, lp5, hb⟩
 replace tb := tb.pass hb
 refine hKc.out _ _ (hS.keep hb) (fun hS => ?_)
 clear hKc Kc hb
 obtain ⟨q6, hq6⟩ : ∃ q, q5 ++ p5 = q := ⟨_, rfl⟩
 have lq6 := cat_le hq6 lq5 lp5
 refine takeE (i := 7) (d := some 70) (v := ?v15) rfl rfl (Or.inl ⟨by rfl, ?h15⟩) hS ?_
 case h15 => intro W _; go_simp; first | done | with_reducible rfl | (rw [if_neg (by omega)])
 simp only [Act.put, zA, zB, zC]
 obtain ⟨q7, hq7⟩ : ∃ q, q6 ++ ⟨#[58]⟩ = q := ⟨_, rfl⟩
 have lq7 := cat_le hq7 lq6 (Nat.le_refl 1)
 refine takeE (i := 8) (d := some 71) (v := ?v16) rfl rfl (Or.inl ⟨by rfl, ?h16⟩) hS ?_
 case h16 => intro W _; go_simp; first | done | with_reducible rfl | (rw [if_neg (by omega)])
 simp only [Act.put, zA, zB, zC]
 obtain ⟨q8, hq8⟩ : ∃ q, q7 ++ u = q := ⟨_, rfl⟩
 have lq8 := cat_le hq8 lq7 lu
 refine takeE (i := 10) (d := some 73) (v := ?v17) rfl rfl (Or.inl ⟨by rfl, ?h17⟩) hS ?_
 case h17 => intro W _; go_simp; first | done | with_reducible rfl | (rw [if_neg (by omega)])
 simp only [Act.put, zA, zB, zC]
 refine ready1 (i := 11) rfl (fun Kc hKc => ?_)
 go_simp
 refine (tb.write q8 (by rw [List.length_append, bts_length]; omega)).mono ?_
 rintro e q8w ⟨rfl, tb4⟩
 refine hKc.out _ _ tb4.mo (fun hS => ?_)
 clear hKc Kc tb hS
 refine wpAnyH_done (by kernel_rfl) ?_ _
 have tb := tb4.as (B := D ++ [84] ++ Mo.timeL ⟨3, y, (m : Int), (d : Int), (h : Int), (i : Int), n, s, S, z, o⟩) (by rw [<- hq8, <- hq7, <- hq6, <- hq5, str_add, str_add, str_add, str_add, hp4.out, hp5.out, HU.out]; unfold Mo.timeL; simp only [List.append_assoc]; rfl)
 clear tb4
 clear hq5 hq6 hq7 hq8 hp4 hp5 HU
 obtain ⟨E, hE⟩ : ∃ E : List Nat, E = D ++ [84] ++ Mo.timeL ⟨3, y, (m : Int), (d : Int), (h : Int), (i : Int), n, s, S, z, o⟩ := ⟨_, rfl⟩
 replace tb := tb.as hE.symm
 have hEl : E.length <= 900 := by rw [hE]; exact full_length HO.out (by show (3 : Int) ≠ 1; decide) HD.out
 have HF : Hid (∀ Z, Mo.zoneL ⟨3, y, (m : Int), (d : Int), (h : Int), (i : Int), n, s, S, z, o⟩ = Z -> R = .tuple #[.string (str (E ++ Z)), .int .i64 0]) := Lib.hid (fun Z hZ => by
  rw [<- HR.out, <- hZ]
  refine (textV_ok HO.out ?_).symm
  rw [hE]
  rw [HD.out]
  unfold Mo.textL
  simp)
 clear hE
 obtain ⟨b, hb⟩ : ∃ b : Nat, b = o.natAbs := ⟨_, rfl⟩
 have hbx : max o (-o) = (b : Int) := by omega
 have hbx2 : max o (IntKind.i64.wrap (-o)) = (b : Int) := by rw [w64 (by omega) (by omega)]; omega
 have hb8 : b <= 840 := by omega
 have HB := Lib.hid hb
 clear hb HO HR hok HD
 obtain ⟨b1, hb1⟩ : ∃ b1 : Nat, b1 = b / 60 := ⟨_, rfl⟩
 obtain ⟨b2, hb2⟩ : ∃ b2 : Nat, b2 = b % 60 := ⟨_, rfl⟩
 have hbd : (b : Int).tdiv 60 = (b1 : Int) := by rw [Int.tdiv_eq_ediv_of_nonneg (by omega)]; omega
 have hbm : (b : Int).tmod 60 = (b2 : Int) := by rw [Int.tmod_eq_emod_of_nonneg (by omega)]; omega
 have hb1l : b1 <= 14 := by omega
 have hb2l : b2 <= 59 := by omega
 have HB1 := Lib.hid hb1
 have HB2 := Lib.hid hb2
 clear hb1 hb2
 cases z with
 | false =>
  go_wp2_with (first | (refine wl_loadC tb.mo rfl (by kernel_rfl) _ rfl (j := 0) (v := .int .i64 3) rfl rfl ?_) | (go_at_call 100; refine (pdated3 _).mono ?_; rintro e w2 ⟨rfl, rfl⟩) | (go_at_call 102; refine (ptimed3 _).mono ?_; rintro e w2 ⟨rfl, rfl⟩) | (refine wl_loadC tb.mo rfl (by kernel_rfl) _ rfl (j := 10) (v := .int .i64 o) rfl rfl ?_) | (refine wl_loadC tb.mo rfl (by kernel_rfl) _ rfl (j := 9) (v := .bool false) rfl rfl ?_))
  refine (tb.str).mono ?_
  rintro e w9 ⟨rfl, hb⟩
  go_wp2
  go_ret2
  exact ⟨by rw [HF.out [] rfl, List.append_nil]; rfl, hb⟩
 | true =>
  by_cases hz : b = 0
  ·have g1 : ((b : Int) == 0) = true := by rw [hz]; rfl
   have ho : o = 0 := by omega
   have HZ := Lib.hid ho
   clear hz ho
   go_wp2_with (first | (refine wl_loadC tb.mo rfl (by kernel_rfl) _ rfl (j := 0) (v := .int .i64 3) rfl rfl ?_) | (go_at_call 100; refine (pdated3 _).mono ?_; rintro e w2 ⟨rfl, rfl⟩) | (go_at_call 102; refine (ptimed3 _).mono ?_; rintro e w2 ⟨rfl, rfl⟩) | (refine wl_loadC tb.mo rfl (by kernel_rfl) _ rfl (j := 10) (v := .int .i64 o) rfl rfl ?_) | (refine wl_loadC tb.mo rfl (by kernel_rfl) _ rfl (j := 9) (v := .bool true) rfl rfl ?_))
   refine (tb.write ⟨#[90]⟩ (by rw [List.length_append]; show _ + 1 <= 1000; omega)).mono ?_
   rintro e w8 ⟨rfl, tb2⟩
   clear tb
   go_wp2_with fail
   refine (tb2.str).mono ?_
   rintro e w9 ⟨rfl, hb⟩
   go_wp2
   go_ret2
   exact ⟨by rw [HF.out [90] (by unfold Mo.zoneL; rw [if_neg (show ¬ (true = false) by decide), if_pos HZ.out])]; rfl, hb⟩
  ·have g1 : ((b : Int) == 0) = false := beq_no hz
   by_cases hp : 0 < o
   ·have g2 : decide (0 < o) = true := decide_eq_true hp
    have HZ : Hid (o ≠ 0 /\ 0 < o) := Lib.hid ⟨by omega, hp⟩
    clear hz hp
    have hone : (⟨#[43]⟩ : ByteArray).size <= 1 := Nat.le_refl _
    have htwo : (⟨#[58]⟩ : ByteArray).size <= 1 := Nat.le_refl _
    go_wp2_with (first | (refine wl_loadC tb.mo rfl (by kernel_rfl) _ rfl (j := 0) (v := .int .i64 3) rfl rfl ?_) | (go_at_call 100; refine (pdated3 _).mono ?_; rintro e w2 ⟨rfl, rfl⟩) | (go_at_call 102; refine (ptimed3 _).mono ?_; rintro e w2 ⟨rfl, rfl⟩) | (refine wl_loadC tb.mo rfl (by kernel_rfl) _ rfl (j := 10) (v := .int .i64 o) rfl rfl ?_) | (refine wl_loadC tb.mo rfl (by kernel_rfl) _ rfl (j := 9) (v := .bool true) rfl rfl ?_))
    refine (ppadded_v b1 2 (by decide) (by omega) (by decide) _ (hV.next tb.bel).pow).mono ?_
    rintro e w6 ⟨p6, rfl, hp6, lp6, hb⟩
    replace tb := tb.pass hb
    obtain ⟨q9, hq9⟩ : ∃ q, ⟨#[43]⟩ ++ p6 = q := ⟨_, rfl⟩
    have lq9 := cat_le hq9 hone lp6
    obtain ⟨q10, hq10⟩ : ∃ q, q9 ++ ⟨#[58]⟩ = q := ⟨_, rfl⟩
    have lq10 := cat_le hq10 lq9 htwo
    clear hb
    go_wp2_with fail
    refine (ppadded_v b2 2 (by decide) (by omega) (by decide) _ (hV.next tb.bel).pow).mono ?_
    rintro e w7 ⟨p7, rfl, hp7, lp7, hb⟩
    replace tb := tb.pass hb
    obtain ⟨q11, hq11⟩ : ∃ q, q10 ++ p7 = q := ⟨_, rfl⟩
    have lq11 := cat_le hq11 lq10 lp7
    clear hb
    go_wp2_with fail
    refine (tb.write q11 (by rw [List.length_append, bts_length]; omega)).mono ?_
    rintro e w8 ⟨rfl, tb2⟩
    clear tb
    have HQ : Hid (bts q11 = Mo.zoneL ⟨3, y, (m : Int), (d : Int), (h : Int), (i : Int), n, s, S, true, o⟩) := Lib.hid (by
     rw [<- hq11, <- hq10, <- hq9, str_add, str_add, str_add, hp6.out, hp7.out, HB1.out, HB2.out, HB.out]
     unfold Mo.zoneL
     rw [if_neg (show ¬ (true = false) by decide), if_neg (show ¬ o = 0 from HZ.out.1), if_pos (show 0 < o by have := HZ.out.2; omega)]
     simp only [List.append_assoc]; rfl)
    clear hq9 hq10 hq11
    go_wp2_with fail
    refine (tb2.str).mono ?_
    rintro e w9 ⟨rfl, hb⟩
    go_wp2
    go_ret2
    exact ⟨by rw [HF.out (bts q11) HQ.out.symm]; rfl, hb⟩
   ·have g2 : decide (0 < o) = false := decide_eq_false hp
    have HZ : Hid (o ≠ 0 /\ ¬ 0 < o) := Lib.hid ⟨by omega, hp⟩
    clear hz hp
    have hone : (⟨#[45]⟩ : ByteArray).size <= 1 := Nat.le_refl _
    have htwo : (⟨#[58]⟩ : ByteArray).size <= 1 := Nat.le_refl _
    go_wp2_with (first | (refine wl_loadC tb.mo rfl (by kernel_rfl) _ rfl (j := 0) (v := .int .i64 3) rfl rfl ?_) | (go_at_call 100; refine (pdated3 _).mono ?_; rintro e w2 ⟨rfl, rfl⟩) | (go_at_call 102; refine (ptimed3 _).mono ?_; rintro e w2 ⟨rfl, rfl⟩) | (refine wl_loadC tb.mo rfl (by kernel_rfl) _ rfl (j := 10) (v := .int .i64 o) rfl rfl ?_) | (refine wl_loadC tb.mo rfl (by kernel_rfl) _ rfl (j := 9) (v := .bool true) rfl rfl ?_))
    refine (ppadded_v b1 2 (by decide) (by omega) (by decide) _ (hV.next tb.bel).pow).mono ?_
    rintro e w6 ⟨p6, rfl, hp6, lp6, hb⟩
    replace tb := tb.pass hb
    obtain ⟨q9, hq9⟩ : ∃ q, ⟨#[45]⟩ ++ p6 = q := ⟨_, rfl⟩
    have lq9 := cat_le hq9 hone lp6
    obtain ⟨q10, hq10⟩ : ∃ q, q9 ++ ⟨#[58]⟩ = q := ⟨_, rfl⟩
    have lq10 := cat_le hq10 lq9 htwo
    clear hb
    go_wp2_with fail
    refine (ppadded_v b2 2 (by decide) (by omega) (by decide) _ (hV.next tb.bel).pow).mono ?_
    rintro e w7 ⟨p7, rfl, hp7, lp7, hb⟩
    replace tb := tb.pass hb
    obtain ⟨q11, hq11⟩ : ∃ q, q10 ++ p7 = q := ⟨_, rfl⟩
    have lq11 := cat_le hq11 lq10 lp7
    clear hb
    go_wp2_with fail
    refine (tb.write q11 (by rw [List.length_append, bts_length]; omega)).mono ?_
    rintro e w8 ⟨rfl, tb2⟩
    clear tb
    have HQ : Hid (bts q11 = Mo.zoneL ⟨3, y, (m : Int), (d : Int), (h : Int), (i : Int), n, s, S, true, o⟩) := Lib.hid (by
     rw [<- hq11, <- hq10, <- hq9, str_add, str_add, str_add, hp6.out, hp7.out, HB1.out, HB2.out, HB.out]
     unfold Mo.zoneL
     rw [if_neg (show ¬ (true = false) by decide), if_neg (show ¬ o = 0 from HZ.out.1), if_neg (show ¬ 0 < o by have := HZ.out.2; omega)]
     simp only [List.append_assoc]; rfl)
    clear hq9 hq10 hq11
    go_wp2_with fail
    refine (tb2.str).mono ?_
    rintro e w9 ⟨rfl, hb⟩
    go_wp2
    go_ret2
    exact ⟨by rw [HF.out (bts q11) HQ.out.symm]; rfl, hb⟩
theorem prun_tx0 : Ex.chk (Ex.runTr Tryz.prog nG (fun _ => none) gd moT [⟨72, [moV 1], [], .bool false⟩] 100 66 [moV 1] h0) (.leaf (.tup [.str [], it 2])) [] = true := by decide +kernel
theorem ptext_m (x : Mo) (hx : x.s.size <= 1000000) (w : World) (M : Int) (hV : Vars M w) : Calls Tryz.prog 66 #[x.val] w fun e w' => e = .returned (textV x) /\ Below w.heap.size w w' := by
 cases hb : Mo.okB x with
 | false =>
  have hc : Ex.AllX Tryz.prog (Ex.envE (.int .i64 M :: txE x)) (Vars M) [⟨72, [moV 1], [], .bool false⟩] := ⟨⟨rfl, fk, fun _ L w hV => by
   have := pvalid_is x hx w M hV
   rw [hb] at this
   exact this⟩, trivial⟩
  have h := tree_run (env := txE x) prun_tx0 hc rfl trivial rfl hV
  have e : textV x = .tuple #[.string ⟨#[]⟩, .int .i64 2] := by unfold textV Mo.textM; rw [hb]; rfl
  rw [e]
  exact h
 | true =>
  have ho := okB_Ok hb
  obtain ⟨_, _, m0, _, d0, _, h0, _, i0, _⟩ := ok_low ho
  have hk := ho.1
  obtain ⟨k, y, m, d, hh, i, n, s, S, z, o⟩ := x
  simp only at hk m0 d0 h0 i0 hx
  obtain ⟨m, rfl⟩ : ∃ q : Nat, m = q := ⟨m.toNat, by omega⟩
  obtain ⟨d, rfl⟩ : ∃ q : Nat, d = q := ⟨d.toNat, by omega⟩
  obtain ⟨hh, rfl⟩ : ∃ q : Nat, hh = q := ⟨hh.toNat, by omega⟩
  obtain ⟨i, rfl⟩ : ∃ q : Nat, i = q := ⟨i.toNat, by omega⟩
  rcases hk with rfl | rfl | rfl
  ·exact ptext1 y m d hh i n s S z o ho hx w M hV
  ·exact ptext2 y m d hh i n s S z o ho hx w M hV
  ·exact ptext3 y m d hh i n s S z o ho hx w M hV
end Go.Proofs.YthoojcdjjecogaaGreatDoor
