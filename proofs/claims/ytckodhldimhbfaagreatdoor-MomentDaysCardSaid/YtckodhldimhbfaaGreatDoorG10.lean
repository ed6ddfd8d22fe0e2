/-
  Part 10 of the proof: what functions return, and plain facts (Pplus Pparse Ptimes Pdigits Pscaled). Conditions: each theorem names its own.
-/
import Derived.Test.YtckodhldimhbfaaGreatDoorG08
import Derived.Test.YtckodhldimhbfaaGreatDoorG04
import Derived.Test.YtckodhldimhbfaaGreatDoorG03
set_option maxRecDepth 1000000
set_option maxHeartbeats 16000000
namespace Go.Proofs.YtckodhldimhbfaaGreatDoor
open Go Go.RowKit

theorem pplus_any (a b : List Nat) (ha : Num a) (hb : Num b) (w : World) : Calls Tryz.prog 145 #[.agg (numV a), .agg (numV b)] w fun e w' => (∃ O : List Nat, e = .returned (.agg (numV O)) /\ Num O /\ Dc.valB O = (Dc.valB a + Dc.valB b) % top) /\ Below w.heap.size w w' := by
 obtain ⟨r1, r2, r3, b0⟩ := rows3 w a b ha.len hb.len
 have C : Hid _ := Lib.hid (pcarried_plus a b ha hb)
 clear ha hb
 go_enter Tryz.func145, Tryz.ntmps145
 go_wp2_with (first
  | (refine wp_loadN r1 rfl _ rfl rfl ?_)
  | (refine wp_loadN r2 rfl _ rfl rfl ?_)
  | (go_at_call 173; refine (C.out _).mono ?_; rintro e w1 ⟨⟨O, rfl, hO⟩, hb1⟩; have HO : Hid _ := Lib.hid hO; have r4 := r3.keep hb1; have hl := hO.1.len; have R5 : Hid _ := Lib.hid (r4.set hl); clear hO)
  | (refine wp_storeN r4 hl rfl _ _ rfl rfl rfl ?_))
 (try simp only [Exit.inBlock, Exit.then]); refine bodyPost_ret (R5.out.result rfl rfl) rfl ?_
 exact ⟨⟨O, rfl, HO.out⟩, below_setRow (b0.trans (hb1.mono b0.size)) (by omega) _⟩
theorem pminus_any (a b : List Nat) (ha : Num a) (hb : Num b) (hle : Dc.valB b <= Dc.valB a) (w : World) : Calls Tryz.prog 146 #[.agg (numV a), .agg (numV b)] w fun e w' => (∃ O : List Nat, e = .returned (.agg (numV O)) /\ Num O /\ Dc.valB O = Dc.valB a - Dc.valB b) /\ Below w.heap.size w w' := by
 obtain ⟨r1, r2, r3, b0⟩ := rows3 w a b ha.len hb.len
 have C : Hid _ := Lib.hid (pcarried_minus a b ha hb (Lib.hid hle))
 clear ha hb hle
 go_enter Tryz.func146, Tryz.ntmps146
 go_wp2_with (first
  | (refine wp_loadN r1 rfl _ rfl rfl ?_)
  | (refine wp_loadN r2 rfl _ rfl rfl ?_)
  | (go_at_call 173; refine (C.out _).mono ?_; rintro e w1 ⟨⟨O, rfl, hO⟩, hb1⟩; have HO : Hid _ := Lib.hid hO; have r4 := r3.keep hb1; have hl := hO.1.len; have R5 : Hid _ := Lib.hid (r4.set hl); clear hO)
  | (refine wp_storeN r4 hl rfl _ _ rfl rfl rfl ?_))
 (try simp only [Exit.inBlock, Exit.then]); refine bodyPost_ret (R5.out.result rfl rfl) rfl ?_
 exact ⟨⟨O, rfl, HO.out⟩, below_setRow (b0.trans (hb1.mono b0.size)) (by omega) _⟩

theorem parseU (M : Nat) (hM : M < 18446744073709551615) : ∀ (l : List UInt8) (acc : Nat), (l.map UInt8.toNat).all Dc.dig = true -> acc * 10 ^ l.length + Dc.val (l.map UInt8.toNat) <= M -> Lib.parseUintM M acc l = .ok (acc * 10 ^ l.length + Dc.val (l.map UInt8.toNat))
 | [], acc, _, _ => by simp [Lib.parseUintM, Dc.val]
 | c :: r, acc, hd, h => by
  rw [List.map_cons, List.all_cons, Bool.and_eq_true] at hd
  have hc := Dc.dig_iff.1 hd.1
  rw [List.map_cons, Dc.val_cons, List.length_map, List.length_cons, Nat.pow_succ] at h
  have e : acc * (10 ^ r.length * 10) + ((c.toNat - 48) * 10 ^ r.length + Dc.val (r.map UInt8.toNat)) = (acc * 10 + (c.toNat - 48)) * 10 ^ r.length + Dc.val (r.map UInt8.toNat) := by
   rw [Nat.add_mul, Nat.mul_assoc, Nat.mul_comm 10, Nat.add_assoc]
  rw [e] at h
  have hp := Dc.pow10_pos r.length
  have h1 : acc * 10 + (c.toNat - 48) <= M := by
   have : (acc * 10 + (c.toNat - 48)) * 1 <= (acc * 10 + (c.toNat - 48)) * 10 ^ r.length := Nat.mul_le_mul_left _ hp
   omega
  rw [List.map_cons, Dc.val_cons, List.length_map, List.length_cons, Nat.pow_succ, e, Lib.parseUintM, if_pos hc, if_neg (by omega), if_neg (by omega)]
  exact parseU M hM r _ hd.2 h
theorem pu_any (s : ByteArray) (h1 : 1 <= s.size) (h2 : s.size <= 9) (hd : (bts s).all Dc.dig = true) (w : World) : Calls Tryz.prog 140 #[.string s, .int .i64 10, .int .i64 32] w fun e w' => e = .returned (.tuple #[.int .u64 (Dc.val (bts s) : Nat), .nilIface]) /\ Below w.heap.size w w' := by
 have hv := Dc.val_lt hd
 rw [bts_length] at hv
 have hp : 10 ^ s.size <= 10 ^ 9 := Nat.pow_le_pow_right (by decide) h2
 have hne : s.data.toList ≠ [] := fun h => by
  have : s.data.toList.length = s.size := rfl
  rw [h] at this; simp at this; omega
 have h := parseU (2 ^ 32 - 1) (by decide) s.data.toList 0 hd (by rw [Nat.zero_mul, Nat.zero_add]; show Dc.val (bts s) <= _; omega)
 rw [Nat.zero_mul, Nat.zero_add] at h
 refine (Tryz.strconv_ParseUint_10_at32_ok s (by omega) (Dc.val (bts s)) (by unfold Lib.parseUintB; rw [if_neg hne]; exact h) w).mono ?_
 rintro e w' ⟨rfl, hw⟩
 refine ⟨rfl, ?_⟩
 rcases hw with rfl | rfl
 ·exact Below.refl _ _
 ·exact ⟨rfl, rfl, rfl, by rw [Lib.bytesWorld_size]; omega, fun k hk => Lib.bytesWorld_at_old w 5 s k hk⟩
theorem parse_step {s S : ByteArray} {m f : Nat} (hS : bts S = (bts s).take m) (hm : m <= s.size) (hf : f = m - 9) : Dc.val ((bts s).take m) = Dc.val ((bts S).drop f) + 10 ^ (m - f) * Dc.val ((bts s).take f) /\ (bts S).take f = (bts s).take f := by
 have e : (bts S).take f = (bts s).take f := by rw [hS, List.take_take]; congr 1; omega
 refine ⟨?_, e⟩
 rw [<- e, <- hS]
 have h := Dc.val_append ((bts S).take f) ((bts S).drop f)
 rw [List.take_append_drop] at h
 rw [h, Nat.add_comm, Nat.mul_comm, List.length_drop, hS, List.length_take, bts_length, Nat.min_eq_left hm]

theorem parse_sum {m f k V v : Nat} {l : List Nat} (hf : f = m - 9) : V + 1000000000 ^ k * (v + 10 ^ (m - f) * Dc.val (l.take f)) = V + 1000000000 ^ k * v + 1000000000 ^ (k + 1) * Dc.val (l.take f) := by
 rcases Nat.lt_or_ge m 9 with h9 | h9
 ·have h0 : f = 0 := by omega
  rw [h0, List.take_zero, Dc.val_nil, Nat.mul_zero, Nat.mul_zero]; rfl
 ·have e : m - f = 9 := by omega
  have e2 : (10 : Nat) ^ (m - f) = 1000000000 := by rw [e]
  rw [e2, Nat.mul_add, Nat.pow_succ, Nat.add_assoc, Nat.mul_assoc]

theorem pparse_any (s : ByteArray) (hs : s.size <= 216) (hd : (bts s).all Dc.dig = true) (w : World) : Calls Tryz.prog 112 #[.string s] w fun e w' => (∃ O : List Nat, e = .returned (.agg (numV O)) /\ Num O /\ Dc.valB O = Dc.val (bts s)) /\ Below w.heap.size w w' := by
 have HD : Hid _ := Lib.hid hd
 have R1 : Hid (Row24 ((w.alloc (.cells (numV (List.replicate 24 0)) 103)).alloc (.cells (numV (List.replicate 24 0)) 103)) w.heap.size (List.replicate 24 0)) := Lib.hid ((Row24.new w _ rfl).old _)
 have R2 : Hid (Row24 ((w.alloc (.cells (numV (List.replicate 24 0)) 103)).alloc (.cells (numV (List.replicate 24 0)) 103)) (w.heap.size + 1) (List.replicate 24 0)) := Lib.hid (by
  have := Row24.new (w.alloc (.cells (numV (List.replicate 24 0)) 103)) (List.replicate 24 0) rfl
  rwa [show (w.alloc (.cells (numV (List.replicate 24 0)) 103)).heap.size = w.heap.size + 1 from Array.size_push _] at this)
 have B0 : Hid (Below w.heap.size w ((w.alloc (.cells (numV (List.replicate 24 0)) 103)).alloc (.cells (numV (List.replicate 24 0)) 103))) := Lib.hid (((Below.refl _ w).alloc (Nat.le_refl _) _).alloc (((Below.refl _ w).alloc (Nat.le_refl _) _).size) _)
 clear hd
 go_enter Tryz.func112, Tryz.ntmps112
 go_wp2
 go_loopw [0, 4] (fun t i wr => ∃ (k m : Nat) (S : ByteArray) (O : List Nat), k <= 24 /\ i = .int .i64 (k : Int) /\ t = .string S /\ m <= s.size /\ Hid (m = 0 \/ m + 9 * k = s.size) /\ Hid (bts S = (bts s).take m) /\ S.size <= 216 /\ Hid (S.size = m) /\ Hid (∀ d ∈ O, d < 1000000000) /\ Hid (Dc.val (bts s) = Dc.valB O + 1000000000 ^ k * Dc.val ((bts s).take m)) /\ Hid (O.drop k = (List.replicate 24 0).drop k) /\ Row24 wr w.heap.size (List.replicate 24 0) /\ Row24 wr (w.heap.size + 1) O /\ Below w.heap.size w wr) (fun t _ _ => match t with | .string X => X.size | _ => 0)
 case atStart => exact ⟨0, s.size, s, List.replicate 24 0, Nat.zero_le _, rfl, rfl, Nat.le_refl _, Lib.hid (Or.inr (by omega)), Lib.hid (by rw [<- bts_length, List.take_length]), hs, Lib.hid rfl, Lib.hid Num.zeros.low, Lib.hid (by rw [Dc.valB_zeros, <- bts_length, List.take_length]; simp), Lib.hid rfl, R1.out, R2.out, B0.out⟩
 case round =>
  obtain ⟨k, m, S, O, hk, rfl, rfl, hm, hmk, hS, hSs, hSm, hlow, hval, hdr, hr1, hr2, hB⟩ := hrel
  by_cases hm0 : m = 0
  ·subst hm0
   have hSe : S.toList.isEmpty = true := isEmpty_yes hSm.out
   have hN : Hid (Num O) := Lib.hid ⟨hr2.len, hlow.out⟩
   have hV : Hid (Dc.valB O = Dc.val (bts s)) := Lib.hid (by rw [hval.out]; simp [Dc.val])
   have hl := hr2.len
   have R3 : Hid _ := Lib.hid (hr1.set hl)
   clear hmk hS hlow hval hdr hm
   go_wp2_with (first
    | (refine wp_loadN hr2 rfl _ rfl rfl ?_)
    | (refine wp_storeN hr1 hl rfl _ _ rfl rfl rfl ?_))
   (try simp only [Exit.inBlock, Exit.then]); refine bodyPost_ret (R3.out.result rfl rfl) rfl ?_
   exact ⟨⟨O, rfl, hN.out, hV.out⟩, below_setRow hB (Nat.le_refl _) _⟩
  ·have hmk2 : m + 9 * k = s.size := by have := hmk.out; omega
   have hk' : k < 24 := by omega
   have k0 : (0 : Int) <= (k : Int) := by omega
   have k1 : (k : Int) < 24 := by omega
   have hSe : S.toList.isEmpty = false := isEmpty_no (by have := hSm.out; omega)
   obtain ⟨f, hf⟩ : ∃ f : Nat, f = m - 9 := ⟨_, rfl⟩
   have hmx : max (0 : Int) ((S.size : Int) - 9) = (f : Int) := by have := hSm.out; omega
   have hfS : f <= S.size := by have := hSm.out; omega
   obtain ⟨x1, hx1⟩ : ∃ x, S.extract f S.size = x := ⟨_, rfl⟩
   obtain ⟨x2, hx2⟩ : ∃ x, S.extract 0 f = x := ⟨_, rfl⟩
   have hst := parse_step hS.out hm hf
   have hb1 : bts x1 = (bts S).drop f := by rw [<- hx1, bts_from]
   have hb2 : bts x2 = (bts s).take f := by rw [<- hx2, bts_extract, List.drop_zero, hst.2]
   have hx1s : x1.size = m - f := by rw [<- bts_length, hb1, List.length_drop, bts_length, hSm.out]
   have hx2s : x2.size = f := by rw [<- bts_length, hb2, List.length_take, bts_length]; omega
   have hd1 : (bts x1).all Dc.dig = true := by
    rw [hb1]; refine List.all_eq_true.2 fun c hc => List.all_eq_true.1 HD.out c ?_
    have := List.mem_of_mem_drop hc
    rw [hS.out] at this
    exact List.mem_of_mem_take this
   obtain ⟨v, hv⟩ : ∃ v, Dc.val (bts x1) = v := ⟨_, rfl⟩
   have C : Hid (∀ w, Calls Tryz.prog 140 #[.string x1, .int .i64 10, .int .i64 32] w fun e w' => e = .returned (.tuple #[.int .u64 (v : Int), .nilIface]) /\ Below w.heap.size w w') := Lib.hid (by rw [<- hv]; exact pu_any x1 (by omega) (by omega) hd1)
   have hvl : v < 1000000000 := by
    have h1 := Dc.val_lt hd1
    rw [hv, bts_length] at h1
    have h2 : 10 ^ x1.size <= 10 ^ 9 := Nat.pow_le_pow_right (by decide) (by omega)
    omega
   have f1 := hr2.open (j := k)
   have hzk : O.getD k 0 = 0 := by rw [drop_at hdr.out, List.getD_eq_getElem?_getD, List.getElem?_replicate, if_pos hk']; rfl
   have hval2 : Hid (Dc.val (bts s) = Dc.valB (O.set k v) + 1000000000 ^ (k + 1) * Dc.val ((bts s).take f)) := Lib.hid (by
    have h1 := Dc.valB_set (l := O) (x := v) (by rw [hr2.len]; exact hk')
    rw [hzk, Nat.mul_zero, Nat.add_zero] at h1
    rw [hval.out, h1, hst.1, <- hb1, hv]
    exact parse_sum hf)
   have hlow2 : Hid (∀ d ∈ O.set k v, d < 1000000000) := Lib.hid (fun d hd => by
    rcases List.mem_or_eq_of_mem_set hd with h | h
    ·exact hlow.out d h
    ·rw [h]; exact hvl)
   have hdr2 : Hid ((O.set k v).drop (k + 1) = (List.replicate 24 0).drop (k + 1)) := Lib.hid (drop_step hdr.out)
   have hx2l : x2.size <= 216 := by omega
   have HX2S : Hid _ := Lib.hid hx2s
   have HB2 : Hid _ := Lib.hid hb2
   have hmk3 : Hid (f = 0 \/ f + 9 * (k + 1) = s.size) := Lib.hid (by omega)
   have hfm : f < m := by omega
   have hfs : f <= s.size := by omega
   clear hmk hmk2 hf hst hb1 hb2 hx1s hx2s hd1 hv hzk hlow hval hdr hm0
   go_wp2_with (go_at_call 140; refine (C.out _).mono ?_; rintro e w1 ⟨rfl, hb⟩; have g1 := hr1.keep hb; have g2 := hr2.keep hb; have f2 := g2.open (j := k); have c2 := g2.cell hk'; have HBB : Hid _ := Lib.hid (hB.trans (hb.mono hB.size)))
   go_region
   all_goals go_wp2
   all_goals go_roundw
   case rel => exact ⟨k + 1, f, x2, O.set k v, by omega, rfl, rfl, hfs, hmk3, HB2, hx2l, HX2S, hlow2, hval2, hdr2, (g1.drew _).apart (by omega) k _, (g2.drew _).put k _, (below_drewN HBB.out _).setCell (p := ⟨w.heap.size + 1, k, none⟩) (by show w.heap.size <= w.heap.size + 1; omega) _⟩
   case measure => simp only; rw [HX2S.out, hSm.out]; exact hfm
theorem valB_low {l : List Nat} (h : Num l) : Dc.valB l < top := by
 have := Dc.valB_lt h.low
 rwa [h.len] at this

theorem Pow.keep {w w' : World} (h : Pow w) (hb : Below w.heap.size w w') : Pow w' := by
 unfold Pow Lib.TabIs World.var? at *
 cases hg : Tryz.prog.globalNamed "internal/strconv.uint64pow10" with
 | none => simp [hg] at h
 | some g =>
  simp only [hg, Option.bind_some] at h ⊢
  have hlt : g < w.heap.size := by
   rcases Nat.lt_or_ge g w.heap.size with h' | h'
   ·exact h'
   ·rw [Array.getElem?_eq_none h'] at h; simp at h
  rw [hb.block g hlt]
  exact h
theorem Row24.keepB {W W' : World} {g B : Nat} {l : List Nat} (h : Row24 W g l) (hb : Below B W W') (hg : g < B) : Row24 W' g l := ⟨(hb.block g hg).trans h.row, h.len⟩
theorem repeat_zeros (c : Nat) (hc : c <= 1000) (w : World) : Calls Tryz.prog 105 #[.string ⟨#[48]⟩, .int .i64 (c : Int)] w fun e w' => (∃ r : ByteArray, e = .returned (.string r) /\ bts r = List.replicate c 48) /\ Below w.heap.size w w' := by
 refine (Tryz.strings_Repeat ⟨#[48]⟩ c w (by omega) (by show 1 * c <= _; omega)).mono ?_
 rintro e w' ⟨rfl, hb⟩
 refine ⟨⟨_, rfl, ?_⟩, hb⟩
 have e1 : Lib.repeatL (List.replicate 1 (48 : UInt8)) c = List.replicate (c * 1) 48 := Lib.repeatL_replicate 48 1 c
 show (Lib.repeatL (List.replicate 1 (48 : UInt8)) c).map UInt8.toNat = _
 rw [e1, List.map_replicate, Nat.mul_one]; rfl
theorem strCells_bts (s : ByteArray) : Lib.strCells s = u8s (bts s) := by
 have := strCells_str (bts s) (bts_all s)
 rwa [str_bts] at this
theorem top_pow : top = 10 ^ 216 := by unfold top; decide
theorem drop_low {n : List Nat} (h : Num n) (j : Nat) (hj : j <= 24) : Dc.valB (n.drop j) < top := by
 have h1 := Dc.valB_split n j (by rw [h.len]; exact hj)
 have h2 := valB_low h
 have h3 : 0 < 1000000000 ^ j := Nat.pow_pos (by decide)
 have h4 : 1 * Dc.valB (n.drop j) <= 1000000000 ^ j * Dc.valB (n.drop j) := Nat.mul_le_mul_right _ h3
 omega
theorem digs_low216 {n : List Nat} (h : Num n) (j : Nat) (hj : j <= 24) : (Dc.digs (Dc.valB (n.drop j))).length <= 216 := (Dc.digs_length (by decide)).2 (by rw [<- top_pow]; exact drop_low h j hj)
theorem drop_top {n : List Nat} {k : Nat} (h : Num n) (hk : k < 24) (hv : Dc.valB n = Dc.valB (n.take (k + 1))) : Dc.valB (n.drop k) = n.getD k 0 := by
 have h1 := Dc.valB_split n k (by rw [h.len]; omega)
 rw [hv, Dc.valB_take (by rw [h.len]; exact hk)] at h1
 exact (Nat.eq_of_mul_eq_mul_left (Nat.pow_pos (by decide)) (Nat.add_left_cancel h1)).symm
theorem drop_next {n : List Nat} {j : Nat} (h : Num n) (hj : j < 24) (hne : Dc.valB (n.drop (j + 1)) ≠ 0) : Dc.digs (Dc.valB (n.drop j)) = Dc.digs (Dc.valB (n.drop (j + 1))) ++ Dc.pad 9 (n.getD j 0) /\ Dc.valB (n.drop j) ≠ 0 := by
 have e : Dc.valB (n.drop j) = Dc.valB (n.drop (j + 1)) * 10 ^ 9 + n.getD j 0 := by
  rw [Dc.drop_getD (by rw [h.len]; exact hj), Dc.valB, show (10 : Nat) ^ 9 = 1000000000 from rfl]
  omega
 refine ⟨by rw [e]; exact Dc.digs_pad hne (by decide) (h.at j), ?_⟩
 rw [e]
 have : 0 < Dc.valB (n.drop (j + 1)) * 10 ^ 9 := Nat.mul_pos (Nat.pos_of_ne_zero hne) (Nat.pow_pos (by decide))
 omega

theorem pdigits_any (n : List Nat) (hn : Num n) (w : World) (hP : Pow w) : Calls Tryz.prog 118 #[.agg (numV n)] w fun e w' => (∃ t : ByteArray, e = .returned (.string t) /\ bts t = Dc.digs (Dc.valB n)) /\ Below w.heap.size w w' := by
 have HN : Hid _ := Lib.hid hn
 have HP : Hid _ := Lib.hid hP
 have hr := Row24.new w n hn.len
 have hb0 : Below w.heap.size w (w.alloc (.cells (numV n) 103)) := (Below.refl _ w).alloc (Nat.le_refl _) _
 have hsz : (w.alloc (.cells (numV n) 103)).heap.size = w.heap.size + 1 := Array.size_push _
 obtain ⟨W, hW⟩ : ∃ W, w.alloc (.cells (numV n) 103) = W := ⟨_, rfl⟩
 rw [hW] at hr hb0 hsz
 have HB0 : Hid _ := Lib.hid hb0
 have HSZ : Hid _ := Lib.hid hsz
 clear hn hP hb0 hsz
 go_enter Tryz.func118, Tryz.ntmps118
 go_wp2
 go_loop [3] (fun i => ∃ k : Nat, k <= 23 /\ i = .int .i64 (k : Int) /\ Hid (Dc.valB n = Dc.valB (n.take (k + 1)))) (fun i => (intOf i).toNat)
 case atStart => exact ⟨23, Nat.le_refl _, rfl, Lib.hid (by rw [List.take_of_length_le (by rw [HN.out.len]; exact Nat.le_refl _)])⟩
 case round =>
  obtain ⟨k, hk, rfl, hv⟩ := hrel
  have hk' : k < 24 := by omega
  have k0 : (0 : Int) <= (k : Int) := by omega
  have k1 : (k : Int) < 24 := by omega
  obtain ⟨x, hx⟩ : ∃ x, n.getD k 0 = x := ⟨_, rfl⟩
  have hxl : x < 1000000000 := by rw [<- hx]; exact HN.out.at k
  have c1 := hr.cell hk'
  rw [hx] at c1
  have HX : Hid _ := Lib.hid hx
  clear hx
  by_cases hk0 : k = 0
  ·have d1 : decide (0 < k) = false := decide_eq_false (by omega)
   have HK : Hid (k = 0 \/ x ≠ 0) := Lib.hid (Or.inl hk0)
   clear hk0
   have hr2 : Row24 (W.alloc (.cells #[.pointer none, .slice none 0 0] 85)) w.heap.size n := hr.old _
   have c2 := hr2.cell hk'
   have bl0 : Lib.IsBuilder 85 5 W.heap.size W.heap.size (u8s []) (W.alloc (.cells #[.pointer none, .slice none 0 0] 85)) := .inl ⟨Nat.le_refl _, _, heap_alloc_last W _, ⟨rfl, .inl ⟨rfl, rfl⟩⟩, by simp [Value.ownBlock]⟩
   have bb0 : Below w.heap.size w (W.alloc (.cells #[.pointer none, .slice none 0 0] 85)) := HB0.out.alloc HB0.out.size _
   have bs0 : W.heap.size <= (W.alloc (.cells #[.pointer none, .slice none 0 0] 85)).heap.size := by rw [show (W.alloc (.cells #[.pointer none, .slice none 0 0] 85)).heap.size = W.heap.size + 1 from Array.size_push _]; omega
   rw [HX.out] at c2
   have CF : Hid _ := Lib.hid (fuint_any x (by omega) _ (HP.out.keep bb0))
   have R2 : Hid _ := Lib.hid hr2
   have BL0 : Hid _ := Lib.hid bl0
   have BB0 : Hid _ := Lib.hid bb0
   have BS0 : Hid _ := Lib.hid bs0
   have hdk : Hid (Dc.valB (n.drop k) = x) := Lib.hid (by rw [drop_top HN.out hk' hv.out, HX.out])
   clear hr2 bl0 bb0 bs0 hv
   go_wp2_with (first
    | (go_at_call 148; refine (CF.out).mono ?_; rintro e w1 ⟨⟨t, rfl, ht⟩, hb1⟩; have HT : Hid _ := Lib.hid ht; have htl : t.size <= 216 := (by rw [<- bts_length, ht, <- hdk.out]; exact digs_low216 HN.out k (by omega)); clear ht; have B1 := BB0.out.trans (hb1.mono BB0.out.size); have S1 : W.heap.size <= w1.heap.size := Nat.le_trans BS0.out hb1.size; have R3 := R2.out.keep hb1; have bl1 := builder_below BL0.out hb1)
    | (go_at_call 63; refine (writeString_any W.heap.size W.heap.size _ t _ bl1 (by simp [u8s]; omega) S1).mono ?_; rintro e w2 ⟨rfl, hbl2, hb2⟩; have B2 := B1.trans (hb2.mono (by have := HSZ.out; omega)); have R4 := R3.keepB hb2 (by have := HSZ.out; omega); have S2 : W.heap.size <= w2.heap.size := Nat.le_trans S1 hb2.size; have BL2 : Hid (Lib.IsBuilder 85 5 W.heap.size W.heap.size (u8s (Dc.digs (Dc.valB (n.drop k)))) w2) := Lib.hid (by rw [hdk.out, <- HT.out]; have h := hbl2; rw [strCells_bts] at h; exact .inr h); clear hbl2))
   go_loopw [3] (fun i wr => ∃ (j : Nat) (z : Int), j <= 23 /\ z = (j : Int) - 1 /\ i = .int .i64 z /\ Hid (j = 0 \/ Dc.valB (n.drop j) ≠ 0) /\ Hid (Lib.IsBuilder 85 5 W.heap.size W.heap.size (u8s (Dc.digs (Dc.valB (n.drop j)))) wr) /\ Row24 wr w.heap.size n /\ W.heap.size <= wr.heap.size /\ Below w.heap.size w wr) (fun i _ => (intOf i + 1).toNat)
   case atStart => exact ⟨k, _, hk, rfl, rfl, Lib.hid (by rw [hdk.out]; exact HK.out), BL2, R4, S2, B2⟩
   case round =>
    clear R3 R4 S1 S2 B1 B2 BL2 c1 c2
    obtain ⟨j, z, hj, hz, rfl, hne, hbl, hrr, hsw, hB⟩ := hrel
    by_cases hj0 : j = 0
    ·subst hj0
     obtain rfl : z = -1 := by omega
     have CS : Hid _ := Lib.hid (Tryz.Builder_String_any W.heap.size W.heap.size ((Dc.digs (Dc.valB n)).map UInt8.ofNat) wr (by rw [byteCells_u8 _ (digs_lt _)]; have := hbl.out; rwa [List.drop_zero] at this) hsw)
     clear hz hj hne hbl
     go_wp2_with (go_at_call 67; refine (CS.out).mono ?_; rintro e w3 ⟨rfl, hb3⟩)
     go_ret
     exact ⟨⟨_, rfl, bts_digs _⟩, hB.trans (hb3.mono (by have := HSZ.out; omega))⟩
    ·obtain ⟨i, rfl⟩ : ∃ i, j = i + 1 := ⟨j - 1, by omega⟩
     obtain rfl : z = (i : Int) := by omega
     have hi' : i < 24 := by omega
     have i0 : (0 : Int) <= (i : Int) := by omega
     have i1 : (i : Int) < 24 := by omega
     obtain ⟨y, hy⟩ : ∃ y, n.getD i 0 = y := ⟨_, rfl⟩
     have hyl : y < 1000000000 := by rw [<- hy]; exact HN.out.at i
     have c3 := hrr.cell hi'
     rw [hy] at c3
     have hnx := drop_next HN.out hi' (by have := hne.out; omega)
     have hll := digs_low216 HN.out (i + 1) (by omega)
     rw [hy] at hnx
     obtain ⟨L, hL⟩ : ∃ L, Dc.digs (Dc.valB (n.drop (i + 1))) = L := ⟨_, rfl⟩
     rw [hL] at hnx hbl hll
     have HNX : Hid _ := Lib.hid hnx
     have CF2 : Hid _ := Lib.hid (fuint_any y (by omega) wr (HP.out.keep hB))
     clear hy hL hz hj0 hne hnx
     go_wp2_with (first
      | (go_at_call 148; refine (CF2.out).mono ?_; rintro e w4 ⟨⟨t2, rfl, ht2⟩, hb4⟩; have ht2l : t2.size <= 9 := (by rw [<- bts_length, ht2]; exact (Dc.digs_length (by decide)).2 hyl); obtain ⟨c, hc⟩ : ∃ c : Nat, c + t2.size = 9 := ⟨9 - t2.size, by omega⟩; have hci : (9 : Int) - (t2.size : Int) = (c : Int) := (by omega); have HT2 : Hid _ := Lib.hid ht2; have HC : Hid _ := Lib.hid hc; clear ht2 hc; have B4 := hB.trans (hb4.mono hB.size); have S4 : W.heap.size <= w4.heap.size := Nat.le_trans hsw hb4.size; have R5 := hrr.keep hb4; have bl4 := Lib.hid (builder_below hbl.out hb4))
      | (go_at_call 105; refine (repeat_zeros c (by have := HC.out; omega) _).mono ?_; rintro e w5 ⟨⟨r, rfl, hrz⟩, hb5⟩; have HRZ : Hid _ := Lib.hid hrz; have hrl : r.size <= 9 := (by rw [<- bts_length, hrz, List.length_replicate]; have := HC.out; omega); clear hrz; have B5 := B4.trans (hb5.mono B4.size); have S5 : W.heap.size <= w5.heap.size := Nat.le_trans S4 hb5.size; have R6 := R5.keep hb5; have bl5 := Lib.hid (builder_below bl4.out hb5); obtain ⟨Y, hY⟩ : ∃ Y, r ++ t2 = Y := ⟨_, rfl⟩; have hYb : Hid (bts Y = Dc.pad 9 y) := Lib.hid (by rw [<- hY, str_add, HRZ.out, HT2.out, Dc.pad]; have h1 := HC.out; rw [<- bts_length, HT2.out] at h1; rw [show 9 - (Dc.digs y).length = c by omega]); have hYl : Y.size <= 18 := (by rw [<- bts_length, <- hY, str_add, List.length_append, bts_length, bts_length]; omega))
      | (go_at_call 63; refine (writeString_any W.heap.size W.heap.size _ Y _ bl5.out (by rw [u8s_length]; omega) S5).mono ?_; rintro e w6 ⟨rfl, hbl6, hb6⟩; have B6 := B5.trans (hb6.mono (by have := HSZ.out; omega)); have R7 := R6.keepB hb6 (by have := HSZ.out; omega); have S6 : W.heap.size <= w6.heap.size := Nat.le_trans S5 hb6.size; have BL6 : Hid (Lib.IsBuilder 85 5 W.heap.size W.heap.size (u8s (Dc.digs (Dc.valB (n.drop i)))) w6) := Lib.hid (by rw [HNX.out.1, <- hYb.out, u8s_append, <- strCells_bts]; exact .inr hbl6); clear hbl6))
     go_roundw
     case rel => exact ⟨i, _, by omega, rfl, rfl, Lib.hid (Or.inr HNX.out.2), BL6, R7, S6, B6⟩
     case measure => simp [intOf]
  ·by_cases hx0 : x = 0
   ·obtain ⟨j, rfl⟩ : ∃ j, k = j + 1 := ⟨k - 1, by omega⟩
    have hv2 : Hid (Dc.valB n = Dc.valB (n.take (j + 1))) := Lib.hid (by rw [hv.out, Dc.valB_take (by rw [HN.out.len]; exact hk'), HX.out, hx0, Nat.mul_zero, Nat.add_zero])
    subst hx0
    clear hv hk0
    go_wp2
    go_round
    case rel => exact ⟨j, by omega, by simp, hv2⟩
    case measure => simp [intOf]
   ·have HK : Hid (k = 0 \/ x ≠ 0) := Lib.hid (Or.inr hx0)
    have d2 : ((x : Int) == 0) = false := beq_no hx0
    clear hx0
    have hr2 : Row24 (W.alloc (.cells #[.pointer none, .slice none 0 0] 85)) w.heap.size n := hr.old _
    have c2 := hr2.cell hk'
    have bl0 : Lib.IsBuilder 85 5 W.heap.size W.heap.size (u8s []) (W.alloc (.cells #[.pointer none, .slice none 0 0] 85)) := .inl ⟨Nat.le_refl _, _, heap_alloc_last W _, ⟨rfl, .inl ⟨rfl, rfl⟩⟩, by simp [Value.ownBlock]⟩
    have bb0 : Below w.heap.size w (W.alloc (.cells #[.pointer none, .slice none 0 0] 85)) := HB0.out.alloc HB0.out.size _
    have bs0 : W.heap.size <= (W.alloc (.cells #[.pointer none, .slice none 0 0] 85)).heap.size := by rw [show (W.alloc (.cells #[.pointer none, .slice none 0 0] 85)).heap.size = W.heap.size + 1 from Array.size_push _]; omega
    rw [HX.out] at c2
    have CF : Hid _ := Lib.hid (fuint_any x (by omega) _ (HP.out.keep bb0))
    have R2 : Hid _ := Lib.hid hr2
    have BL0 : Hid _ := Lib.hid bl0
    have BB0 : Hid _ := Lib.hid bb0
    have BS0 : Hid _ := Lib.hid bs0
    have hdk : Hid (Dc.valB (n.drop k) = x) := Lib.hid (by rw [drop_top HN.out hk' hv.out, HX.out])
    clear hr2 bl0 bb0 bs0 hv
    go_wp2_with (first
     | (go_at_call 148; refine (CF.out).mono ?_; rintro e w1 ⟨⟨t, rfl, ht⟩, hb1⟩; have HT : Hid _ := Lib.hid ht; have htl : t.size <= 216 := (by rw [<- bts_length, ht, <- hdk.out]; exact digs_low216 HN.out k (by omega)); clear ht; have B1 := BB0.out.trans (hb1.mono BB0.out.size); have S1 : W.heap.size <= w1.heap.size := Nat.le_trans BS0.out hb1.size; have R3 := R2.out.keep hb1; have bl1 := builder_below BL0.out hb1)
     | (go_at_call 63; refine (writeString_any W.heap.size W.heap.size _ t _ bl1 (by simp [u8s]; omega) S1).mono ?_; rintro e w2 ⟨rfl, hbl2, hb2⟩; have B2 := B1.trans (hb2.mono (by have := HSZ.out; omega)); have R4 := R3.keepB hb2 (by have := HSZ.out; omega); have S2 : W.heap.size <= w2.heap.size := Nat.le_trans S1 hb2.size; have BL2 : Hid (Lib.IsBuilder 85 5 W.heap.size W.heap.size (u8s (Dc.digs (Dc.valB (n.drop k)))) w2) := Lib.hid (by rw [hdk.out, <- HT.out]; have h := hbl2; rw [strCells_bts] at h; exact .inr h); clear hbl2))
    go_loopw [3] (fun i wr => ∃ (j : Nat) (z : Int), j <= 23 /\ z = (j : Int) - 1 /\ i = .int .i64 z /\ Hid (j = 0 \/ Dc.valB (n.drop j) ≠ 0) /\ Hid (Lib.IsBuilder 85 5 W.heap.size W.heap.size (u8s (Dc.digs (Dc.valB (n.drop j)))) wr) /\ Row24 wr w.heap.size n /\ W.heap.size <= wr.heap.size /\ Below w.heap.size w wr) (fun i _ => (intOf i + 1).toNat)
    case atStart => exact ⟨k, _, hk, rfl, rfl, Lib.hid (by rw [hdk.out]; exact HK.out), BL2, R4, S2, B2⟩
    case round =>
     clear R3 R4 S1 S2 B1 B2 BL2 c1 c2
     obtain ⟨j, z, hj, hz, rfl, hne, hbl, hrr, hsw, hB⟩ := hrel
     by_cases hj0 : j = 0
     ·subst hj0
      obtain rfl : z = -1 := by omega
      have CS : Hid _ := Lib.hid (Tryz.Builder_String_any W.heap.size W.heap.size ((Dc.digs (Dc.valB n)).map UInt8.ofNat) wr (by rw [byteCells_u8 _ (digs_lt _)]; have := hbl.out; rwa [List.drop_zero] at this) hsw)
      clear hz hj hne hbl
      go_wp2_with (go_at_call 67; refine (CS.out).mono ?_; rintro e w3 ⟨rfl, hb3⟩)
      go_ret
      exact ⟨⟨_, rfl, bts_digs _⟩, hB.trans (hb3.mono (by have := HSZ.out; omega))⟩
     ·obtain ⟨i, rfl⟩ : ∃ i, j = i + 1 := ⟨j - 1, by omega⟩
      obtain rfl : z = (i : Int) := by omega
      have hi' : i < 24 := by omega
      have i0 : (0 : Int) <= (i : Int) := by omega
      have i1 : (i : Int) < 24 := by omega
      obtain ⟨y, hy⟩ : ∃ y, n.getD i 0 = y := ⟨_, rfl⟩
      have hyl : y < 1000000000 := by rw [<- hy]; exact HN.out.at i
      have c3 := hrr.cell hi'
      rw [hy] at c3
      have hnx := drop_next HN.out hi' (by have := hne.out; omega)
      have hll := digs_low216 HN.out (i + 1) (by omega)
      rw [hy] at hnx
      obtain ⟨L, hL⟩ : ∃ L, Dc.digs (Dc.valB (n.drop (i + 1))) = L := ⟨_, rfl⟩
      rw [hL] at hnx hbl hll
      have HNX : Hid _ := Lib.hid hnx
      have CF2 : Hid _ := Lib.hid (fuint_any y (by omega) wr (HP.out.keep hB))
      clear hy hL hz hj0 hne hnx
      go_wp2_with (first
       | (go_at_call 148; refine (CF2.out).mono ?_; rintro e w4 ⟨⟨t2, rfl, ht2⟩, hb4⟩; have ht2l : t2.size <= 9 := (by rw [<- bts_length, ht2]; exact (Dc.digs_length (by decide)).2 hyl); obtain ⟨c, hc⟩ : ∃ c : Nat, c + t2.size = 9 := ⟨9 - t2.size, by omega⟩; have hci : (9 : Int) - (t2.size : Int) = (c : Int) := (by omega); have HT2 : Hid _ := Lib.hid ht2; have HC : Hid _ := Lib.hid hc; clear ht2 hc; have B4 := hB.trans (hb4.mono hB.size); have S4 : W.heap.size <= w4.heap.size := Nat.le_trans hsw hb4.size; have R5 := hrr.keep hb4; have bl4 := Lib.hid (builder_below hbl.out hb4))
       | (go_at_call 105; refine (repeat_zeros c (by have := HC.out; omega) _).mono ?_; rintro e w5 ⟨⟨r, rfl, hrz⟩, hb5⟩; have HRZ : Hid _ := Lib.hid hrz; have hrl : r.size <= 9 := (by rw [<- bts_length, hrz, List.length_replicate]; have := HC.out; omega); clear hrz; have B5 := B4.trans (hb5.mono B4.size); have S5 : W.heap.size <= w5.heap.size := Nat.le_trans S4 hb5.size; have R6 := R5.keep hb5; have bl5 := Lib.hid (builder_below bl4.out hb5); obtain ⟨Y, hY⟩ : ∃ Y, r ++ t2 = Y := ⟨_, rfl⟩; have hYb : Hid (bts Y = Dc.pad 9 y) := Lib.hid (by rw [<- hY, str_add, HRZ.out, HT2.out, Dc.pad]; have h1 := HC.out; rw [<- bts_length, HT2.out] at h1; rw [show 9 - (Dc.digs y).length = c by omega]); have hYl : Y.size <= 18 := (by rw [<- bts_length, <- hY, str_add, List.length_append, bts_length, bts_length]; omega))
       | (go_at_call 63; refine (writeString_any W.heap.size W.heap.size _ Y _ bl5.out (by rw [u8s_length]; omega) S5).mono ?_; rintro e w6 ⟨rfl, hbl6, hb6⟩; have B6 := B5.trans (hb6.mono (by have := HSZ.out; omega)); have R7 := R6.keepB hb6 (by have := HSZ.out; omega); have S6 : W.heap.size <= w6.heap.size := Nat.le_trans S5 hb6.size; have BL6 : Hid (Lib.IsBuilder 85 5 W.heap.size W.heap.size (u8s (Dc.digs (Dc.valB (n.drop i)))) w6) := Lib.hid (by rw [HNX.out.1, <- hYb.out, u8s_append, <- strCells_bts]; exact .inr hbl6); clear hbl6))
      go_roundw
      case rel => exact ⟨i, _, by omega, rfl, rfl, Lib.hid (Or.inr HNX.out.2), BL6, R7, S6, B6⟩
      case measure => simp [intOf]

theorem Row24.blk {W : World} {g : Nat} {l : List Nat} (h : Row24 W g l) : Blk W g 103 (numV l) := h.row
theorem Row24.far {W W' : World} {g r : Nat} {l : List Nat} (h : Row24 W g l) (hb : W.grownBy W' (some r)) (hr : g ≠ r) : Row24 W' g l := ⟨Blk.far h.blk hb hr, h.len⟩
theorem agg_num {l : List Nat} (h : l.length = 24) : aggT 103 (numV l).size = true := by rw [numV_size, h]; kernel_rfl
theorem numV_oneL (l : List Nat) : (numV l).toList.all (·.oneCell') = true := by rw [Array.all_toList]; exact numV_one l
theorem zero_num : (Tryz.prog.info? 103).bind (·.zero) = some (.agg (numV (List.replicate 24 0))) := by kernel_rfl
theorem pscaled_any (n : Bool) (s : ByteArray) (T m : Nat) (hs : s.size <= 60) (hd : (bts s).all Dc.dig = true) (hT : T <= m) (hm : m <= 120) (w : World) : Calls Tryz.prog 81 #[.agg #[.bool n, .string s, .int .i64 (T : Int)], .int .i64 (m : Int)] w fun e w' => (∃ O : List Nat, e = .returned (.agg (numV O)) /\ Num O /\ Dc.valB O = Dc.val (bts s) * 10 ^ (m - T)) /\ Below w.heap.size w w' := by
 obtain ⟨c, hc⟩ : ∃ c, m - T = c := ⟨_, rfl⟩
 have hci : IntKind.i64.wrap ((m : Int) - (T : Int)) = (c : Int) := by rw [IntKind.wrap_i64]; omega
 have C1 : Hid _ := Lib.hid (repeat_zeros c (by omega))
 have HD : Hid _ := Lib.hid hd
 have HC : Hid _ := Lib.hid hc
 have hcl : c <= 120 := by omega
 rw [hc]
 clear hd hc
 go_enter Tryz.func81, Tryz.ntmps81
 go_wp2_with (first
  | (refine wl_boxA rfl _ rfl rfl (fun W2 b2 hb2 => ?_))
  | (refine wl_allocA rfl zero_num rfl (fun W4 b4 hb4 => ?_); have k2 := b2.keep hb4; have hB := below_step hb2 hb4; have n24 : w.heap.size ≠ W2.heap.size := Nat.ne_of_lt b2.lt; have hsz := hb2.size; have b4' : Row24 W4.drew W2.heap.size (List.replicate 24 0) := ⟨b4, rfl⟩; clear b4 hb2 hb4 b2))
 refine wp_region_held_drew (S := fun W : World => Below w.heap.size w W /\ Blk W w.heap.size 23 #[.bool n, .string s, .int .i64 (T : Int)]) (by kernel_rfl) ⟨below_step hB (below_drew _), k2.drew⟩ (fun hS => ?_)
 refine takeE (i := 0) (d := some 5) (v := ?v1) rfl rfl (Or.inl ⟨by rfl, ?h1⟩) hS ?_
 case h1 => intro W _; go_simp; try with_reducible rfl
 simp only [Act.put, zA, zB, zC]
 refine takeE (i := 1) (d := some 6) (v := .string s) rfl rfl (yields_C rfl (by rfl) (by kernel_rfl) _ rfl (j := 1) rfl rfl (fun W hW => hW.2)) hS ?_
 simp only [Act.put, zA, zB, zC]
 refine takeE (i := 2) (d := some 7) (v := ?v2) rfl rfl (Or.inl ⟨by rfl, ?h2⟩) hS ?_
 case h2 => intro W _; go_simp; try with_reducible rfl
 simp only [Act.put, zA, zB, zC]
 refine takeE (i := 3) (d := some 8) (v := ?v3) rfl rfl (Or.inl ⟨by rfl, ?h3⟩) hS ?_
 case h3 => intro W _; go_simp; try with_reducible rfl
 simp only [Act.put, zA, zB, zC]
 refine takeE (i := 4) (d := some 9) (v := .int .i64 (T : Int)) rfl rfl (yields_C rfl (by rfl) (by kernel_rfl) _ rfl (j := 2) rfl rfl (fun W hW => hW.2)) hS ?_
 simp only [Act.put, zA, zB, zC]
 refine takeE (i := 5) (d := some 10) (v := ?v4) rfl rfl (Or.inl ⟨by rfl, ?h4⟩) hS ?_
 case h4 => intro W _; go_simp; try with_reducible rfl
 simp only [Act.put, zA, zB, zC]
 refine ready1 (i := 6) rfl (fun Kc hKc => ?_)
 go_simp
 refine (C1.out _).mono ?_
 rintro e W5 ⟨⟨r, rfl, hr⟩, hb⟩
 replace b4' := b4'.keep hb
 have hrl : r.size <= 120 := by rw [<- bts_length, hr, List.length_replicate]; omega
 obtain ⟨u, hu⟩ : ∃ u, s ++ r = u := ⟨_, rfl⟩
 have hub : bts u = bts s ++ List.replicate c 48 := by rw [<- hu, str_add, hr]
 have HU : Hid _ := Lib.hid hub
 clear hr hub
 refine hKc.out _ _ ⟨below_step hS.1 hb, hS.2.keep hb⟩ (fun hS => ?_)
 clear hKc Kc
 refine takeE (i := 7) (d := some 12) (v := ?v5) rfl rfl (Or.inl ⟨by rfl, ?h5⟩) hS ?_
 case h5 => intro W _; have hq : ¬ 9223372036854775807 < s.size + r.size := (by omega); go_simp; try with_reducible rfl
 simp only [Act.put, zA, zB, zC]
 refine ready1 (i := 8) rfl (fun Kc hKc => ?_)
 go_simp
 refine (pparse_any u (by rw [<- bts_length, HU.out, List.length_append, bts_length, List.length_replicate]; omega) (by rw [HU.out, List.all_append, HD.out, Dc.zeros_dig]; rfl) _).mono ?_
 rintro e W6 ⟨⟨O, rfl, hO⟩, hb⟩
 replace b4' := b4'.keep hb
 have hOl := hO.1.len
 have HO : Hid _ := Lib.hid hO
 clear hO
 refine hKc.out _ _ ⟨below_step hS.1 hb, hS.2.keep hb⟩ (fun hS => ?_)
 clear hKc Kc
 refine ready1 (i := 9) rfl (fun Kc hKc => ?_)
 refine st_of rfl (wp_storeA b4'.blk _ _ rfl rfl rfl (agg_num hOl) (by rw [numV_size, numV_size, hOl]; rfl) (numV_oneL O) rfl (fun W7 b7 hg => ?_))
 refine hKc.out _ _ ⟨below_far hS.1 hS.1.size (by omega) hg, hS.2.far hg (by omega)⟩ (fun hS => ?_)
 clear hKc Kc
 refine wpAnyH_done (by kernel_rfl) ?_ _
 go_wp2
 refine bodyPost_ret (res_cell rfl b7 (agg_num hOl) rfl) rfl ⟨⟨O, rfl, HO.out.1, by rw [HO.out.2, HU.out, Dc.val_zeros_back]⟩, hS.1⟩
end Go.Proofs.YtckodhldimhbfaaGreatDoor
