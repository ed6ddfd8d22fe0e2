/-
  Part 34 of the proof: what functions return, and plain facts (Mread0 Xpread). Conditions: each theorem names its own.
-/
import Derived.Test.YthoojcdjjecogaaGreatDoorG32
import Derived.Test.YthoojcdjjecogaaGreatDoorG33
import Derived.Test.YthoojcdjjecogaaGreatDoorG21
import Derived.Shelf.Strings.SlTrimAscii
set_option maxRecDepth 1000000
set_option maxHeartbeats 16000000
namespace Go.Proofs.YthoojcdjjecogaaGreatDoor
open Go Go.RowKit

theorem other_dec {k : Int} (h1 : k ≠ 1) (h2 : k ≠ 2) (h3 : k ≠ 3) : (k == 1) = false /\ (k == 2) = false /\ (k == 3) = false := ⟨beq_false_of_ne h1, beq_false_of_ne h2, beq_false_of_ne h3⟩
theorem pdated0 (k : Int) (h1 : k ≠ 1) (h2 : k ≠ 2) (h3 : k ≠ 3) (w : World) : Calls Tryz.prog 100 #[.int .i64 k] w fun e w' => e = .returned (.bool false) /\ w = w' := by
 obtain ⟨e1, e2, e3⟩ := other_dec h1 h2 h3
 go_enter Tryz.func100, Tryz.ntmps100
 go_wp2
 go_ret
 exact ⟨rfl, rfl⟩
theorem ptimed0 (k : Int) (h1 : k ≠ 1) (h2 : k ≠ 2) (h3 : k ≠ 3) (w : World) : Calls Tryz.prog 102 #[.int .i64 k] w fun e w' => e = .returned (.bool false) /\ w = w' := by
 obtain ⟨e1, e2, e3⟩ := other_dec h1 h2 h3
 go_enter Tryz.func102, Tryz.ntmps102
 go_wp2
 go_ret
 exact ⟨rfl, rfl⟩
theorem pread0 (k : Int) (h1 : k ≠ 1) (h2 : k ≠ 2) (h3 : k ≠ 3) (l : ByteArray) (w : World) : Calls Tryz.prog 239 #[.int .i64 k, .string l] w fun e w' => e = .returned (.tuple #[(Mo.readM k (bts l)).1.val, .int .i64 (Mo.readM k (bts l)).2]) /\ Below w.heap.size w w' := by
 have HR : Hid (Mo.readM k (bts l) = (Mo.nil, 2)) := Lib.hid (by unfold Mo.readM; rw [if_neg (by omega)])
 have HD := Lib.hid (pdated0 k h1 h2 h3)
 have HT := Lib.hid (ptimed0 k h1 h2 h3)
 clear h1 h2 h3
 go_enter_defers Tryz.func239, Tryz.ntmps239
 go_upto_region 2 with (first
  | (go_at_call 100; refine (HD.out _).mono ?_; rintro e w1 ⟨rfl, rfl⟩)
  | (go_at_call 102; refine (HT.out _).mono ?_; rintro e w1 ⟨rfl, rfl⟩)
  | (refine wl_allocA rfl zero_mo rfl (fun W2 b2 hb => ?_); have hB := hb; clear hb))
 have l2 := b2.lt
 have b3 := Blk.new W2 30 #[.int .i64 0]
 replace b2 := b2.old (.cells #[.int .i64 0] 30)
 replace hB := hB.alloc hB.size (.cells #[.int .i64 0] 30)
 have hle := hB.size
 generalize W2.alloc (.cells #[.int .i64 0] 30) = W3 at *
 obtain ⟨mb, hmb⟩ : ∃ mb, mb = w.heap.size := ⟨_, rfl⟩
 obtain ⟨eb, heb⟩ : ∃ eb, eb = W2.heap.size := ⟨_, rfl⟩
 rw [<- hmb] at b2 l2 ⊢
 rw [<- heb] at b3 l2 ⊢
 have lm : w.heap.size <= mb := by omega
 have le : w.heap.size <= eb := by omega
 clear hmb heb
 go_wp2_with (first
  | (refine wl_loadA b2 rfl (by kernel_rfl) _ rfl rfl ?_)
  | (refine wl_storeA b2 rfl _ _ rfl rfl rfl (by kernel_rfl) rfl rfl rfl (fun W8 b8 hg => ?_); replace b3 := b3.far hg (by omega); replace hB := below_far hB hB.size lm hg; clear hg)
  | (refine wl_storeC b3 rfl _ _ rfl rfl rfl rfl (by kernel_rfl) (Nat.le_of_ble_eq_true rfl) rfl (fun W9 b9 hg => ?_); replace b8 := b8.far hg (by omega); replace hB := below_far hB hB.size le hg; clear hg))
 exact ⟨_, res_cells rfl b8 b9 rfl rfl, by rw [HR.out], hB⟩
theorem pread_m (k : Int) (l : ByteArray) (hs : l.size <= 300) (w : World) (M : Int) (hV : Vars M w) : Calls Tryz.prog 239 #[.int .i64 k, .string l] w fun e w' => e = .returned (.tuple #[(Mo.readM k (bts l)).1.val, .int .i64 (Mo.readM k (bts l)).2]) /\ Below w.heap.size w w' := by
 by_cases h1 : k = 1
 ·rw [h1]; exact pread1 l hs w M hV
 by_cases h2 : k = 2
 ·rw [h2]; exact pread2 l hs w M hV
 by_cases h3 : k = 3
 ·rw [h3]; exact pread3 l hs w M hV
 exact pread0 k h1 h2 h3 l w
open Go.Ex Go.Shelf
def mo0 : List V := [it 0, it 0, it 0, it 0, it 0, it 0, .bool false, .str [], it 0, .bool false, it 0]
def moL (b : Nat) : List V := [xi b, xi (b + 1), xi (b + 2), xi (b + 3), xi (b + 4), xi (b + 5), xb (b + 6), xs (b + 7), xi (b + 8), xb (b + 9), xi (b + 10)]
def vl (k t b n s S : V) (m : List V) (l : V) : V := .agg ([k, t, b, n, s, S] ++ m ++ [l])
def vaV (b : Nat) (l : V) : V := vl (xi b) (xs (b + 1)) (xb (b + 2)) (xb (b + 3)) (xs (b + 4)) (xi (b + 5)) (moL (b + 6)) l
def tZ (e : V) : Tree := .leaf (.tup [vl (it 0) (.str []) (.bool false) (.bool false) (.str []) (it 0) mo0 .nils, e])
def tuV (r : Vl × Int) : Value := .tuple #[r.1.val nilL, .int .i64 r.2]
theorem tZ_den (e : V) (c : Int) (E : Nat -> Value) (h : e.den L0 E = .int .i64 c) : ((tZ e).at E).den L0 E = tuV (Lx.zero, c) := by
 simp only [tZ, Tree.at, V.den, V.dens, h]
 rfl
def c10 : List Nat := [48, 49, 50, 51, 52, 53, 54, 55, 56, 57]
def trimD (s : ByteArray) : ByteArray := ⟨(Lib.trimS s.data.toList (c10.map UInt8.ofNat)).toArray⟩
theorem strings_trimD (s : ByteArray) (hs : s.size <= 1000000) (w : World) : Calls Tryz.prog 232 #[.string s, .string ⟨#[48, 49, 50, 51, 52, 53, 54, 55, 56, 57]⟩] w fun e w' => e = .returned (.string (trimD s)) /\ Below w.heap.size w w' :=
 Any.strings_Trim_laid Tryz.lays160 (by kernel_rfl) s ⟨#[48, 49, 50, 51, 52, 53, 54, 55, 56, 57]⟩ w (by omega) (by decide) (ascii_of_all (by decide))
theorem dig_u8 (c : UInt8) : (c10.map UInt8.ofNat).contains c = Dc.dig c.toNat := by
 have h : ∀ n : Fin 256, (c10.map UInt8.ofNat).contains (UInt8.ofNat n.val) = Dc.dig n.val := by decide +kernel
 have := h ⟨c.toNat, c.toNat_lt⟩
 simpa using this
theorem dropWhile_nil {α : Type} {p : α -> Bool} : ∀ {l : List α}, l.dropWhile p = [] ↔ l.all p = true
 | [] => by simp
 | a :: l => by
  rw [List.dropWhile_cons, List.all_cons]
  split
  ·rename_i h; rw [h, Bool.true_and]; exact dropWhile_nil
  ·rename_i h; simp [h]
theorem trimD_nil (s : ByteArray) : decide (trimD s = ⟨#[]⟩) = (bts s).all Dc.dig := by
 have e1 : (trimD s = ⟨#[]⟩) ↔ Lib.trimS s.data.toList (c10.map UInt8.ofNat) = [] := by
  unfold trimD
  constructor
  ·intro h; have := congrArg (fun b : ByteArray => b.data.toList) h; simpa using this
  ·intro h; rw [h]
 have e2 : (bts s).all Dc.dig = s.data.toList.all fun c => (c10.map UInt8.ofNat).contains c := by
  unfold bts
  rw [List.all_map]
  congr 1
  funext c
  rw [dig_u8]; rfl
 rw [e2, Bool.eq_iff_iff, decide_eq_true_eq, e1]
 unfold Lib.trimS Lib.trimRightS Lib.trimLeftS
 constructor
 ·intro h
  rw [dropWhile_nil, List.all_reverse] at h
  cases hr : s.data.toList.reverse.dropWhile ((c10.map UInt8.ofNat).contains ·) with
  | nil => rw [<- List.all_reverse]; exact dropWhile_nil.1 hr
  | cons a r =>
   rw [hr, List.all_cons, Bool.and_eq_true] at h
   have := List.head_dropWhile_not (fun x => (c10.map UInt8.ofNat).contains x) (l := s.data.toList.reverse) (by rw [hr]; exact List.cons_ne_nil _ _)
   simp only [hr, List.head_cons] at this
   rw [this] at h
   cases h.1
 ·intro h
  rw [<- List.all_reverse] at h
  rw [dropWhile_nil.2 h]; rfl
theorem below_same {w w' : World} (h : w' = w) : Below w.heap.size w w' := by rw [h]; exact Below.refl _ _
theorem run_only : chk (runTr Tryz.prog nG (fun _ => none) (fun _ => true) deT [⟨232, [xs 1, .str c10], [], xs 2⟩] 100 230 [xs 1] hN) (.node (.seq (.at 2) (.str [])) (.leaf (.bool true)) (.leaf (.bool false))) [] = true := by decide +kernel
theorem xonly_is (s : ByteArray) (hs : s.size <= 1000000) (w : World) : Calls Tryz.prog 230 #[.string s] w fun e w' => e = .returned (.bool ((bts s).all Dc.dig)) /\ Below w.heap.size w w' := by
 refine tree_nv (env := [.string s, .string (trimD s)]) run_only ⟨⟨rfl, fk, fun _ L w _ => strings_trimD s hs w⟩, trivial⟩ rfl trivial rfl rfl ?_
 rw [<- trimD_nil s]
 show ((bif decide (trimD s = ⟨#[]⟩) then V.bool true else V.bool false)).den L0 _ = _
 cases decide (trimD s = ⟨#[]⟩) <;> rfl
def trT : Tree := .node (.seq (.at 1) (.str [116, 114, 117, 101])) (.leaf (.tup [vl (it 2) (.str []) (.bool true) (.bool false) (.str []) (it 0) mo0 .nils, it 0])) (.node (.seq (.at 1) (.str [49])) (.leaf (.tup [vl (it 2) (.str []) (.bool true) (.bool false) (.str []) (it 0) mo0 .nils, it 0]))
 (.node (.seq (.at 1) (.str [102, 97, 108, 115, 101])) (.leaf (.tup [vl (it 2) (.str []) (.bool false) (.bool false) (.str []) (it 0) mo0 .nils, it 0])) (.node (.seq (.at 1) (.str [48])) (.leaf (.tup [vl (it 2) (.str []) (.bool false) (.bool false) (.str []) (it 0) mo0 .nils, it 0])) (tZ (it 6)))))
theorem run_truth : chk (runTr Tryz.prog nG (fun _ => none) (fun _ => true) deT [] 100 228 [.agg [], xs 1] hN) trT [] = true := by decide +kernel
theorem xtruth_is (s : ByteArray) (w : World) : Calls Tryz.prog 228 #[.agg #[], .string s] w fun e w' => e = .returned (tuV (Lx.truthV s)) /\ Below w.heap.size w w' := by
 refine tree_nv (env := [.string s]) run_truth trivial rfl trivial rfl rfl ?_
 have e : trT.at (envE [.int .i64 0, .string s]) = bif decide (s = Lx.strT) then .tup [vl (it 2) (.str []) (.bool true) (.bool false) (.str []) (it 0) mo0 .nils, it 0] else bif decide (s = ⟨#[49]⟩) then .tup [vl (it 2) (.str []) (.bool true) (.bool false) (.str []) (it 0) mo0 .nils, it 0] else
  bif decide (s = Lx.strF) then .tup [vl (it 2) (.str []) (.bool false) (.bool false) (.str []) (it 0) mo0 .nils, it 0] else bif decide (s = ⟨#[48]⟩) then .tup [vl (it 2) (.str []) (.bool false) (.bool false) (.str []) (it 0) mo0 .nils, it 0] else (tZ (it 6)).at (envE [.int .i64 0, .string s]) := rfl
 rw [e]
 unfold Lx.truthV
 by_cases h1 : s = Lx.strT
 ·rw [decide_eq_true h1, if_pos (.inl h1)]; rfl
 ·by_cases h2 : s = ⟨#[49]⟩
  ·rw [decide_eq_false h1, decide_eq_true h2, if_pos (.inr h2)]; rfl
  ·rw [decide_eq_false h1, decide_eq_false h2, if_neg (fun h => h.elim h1 h2)]
   by_cases h3 : s = Lx.strF
   ·rw [decide_eq_true h3, if_pos (.inl h3)]; rfl
   ·by_cases h4 : s = ⟨#[48]⟩
    ·rw [decide_eq_false h3, decide_eq_true h4, if_pos (.inr h4)]; rfl
    ·rw [decide_eq_false h3, decide_eq_false h4, if_neg (fun h => h.elim h3 h4)]; rfl
def inT : Tree := .node (.eq (.at 14) (.int 0)) (.leaf (.tup [vl (it 4) (.str []) (.bool false) (.bool false) (.str []) (it 0) (moL 3) .nils, it 0])) (tZ (xi 14))
theorem run_instant : chk (runTr Tryz.prog nG (fun _ => none) gd moT [⟨239, [xi 1, xs 2], [], .tup [moV 3, xi 14]⟩] 100 238 [.agg [xi 1], xs 2] h0) inT [] = true := by decide +kernel
theorem xinstant_is (k : Int) (s : ByteArray) (hs : s.size <= 300) (w : World) (M : Int) (hV : Vars M w) : Calls Tryz.prog 238 #[.agg #[.int .i64 k], .string s] w fun e w' => e = .returned (tuV (Lx.momV (Mo.readM k (bts s)))) /\ Below w.heap.size w w' := by
 obtain ⟨q, hq⟩ : ∃ q, Mo.readM k (bts s) = q := ⟨_, rfl⟩
 refine tree_rv (env := [.int .i64 k, .string s] ++ q.1.list ++ [.int .i64 q.2]) run_instant ⟨⟨rfl, fk, fun _ L w hV => by have h := pread_m k s hs w M hV; rw [hq] at h; exact h⟩, trivial⟩ rfl trivial rfl rfl ?_ hV
 rw [hq]
 show ((bif decide (q.2 = 0) then _ else _ : V)).den L0 _ = tuV (Lx.momV q)
 unfold Lx.momV
 by_cases h : q.2 = 0
 ·rw [decide_eq_true h, if_pos h]; rfl
 ·rw [decide_eq_false h, if_neg h]; rfl
def cutA (s : ByteArray) : ByteArray := ⟨(Lib.cut s.data.toList [46]).1.toArray⟩
def cutB (s : ByteArray) : ByteArray := ⟨(Lib.cut s.data.toList [46]).2.1.toArray⟩
theorem cut_bts (s : ByteArray) : bts (cutA s) = Dc.whole (bts s) /\ bts (cutB s) = Dc.part (bts s) := cut_dot s.data.toList
theorem strings_cut46 (s : ByteArray) (hs : s.size <= 1000000) (w : World) (hG : Good w) : Calls Tryz.prog 103 #[.string s, .string ⟨#[46]⟩] w fun e w' => e = .returned (.tuple #[.string (cutA s), .string (cutB s), .bool (Lib.cut s.data.toList [46]).2.2]) /\ Below w.heap.size w w' := by
 obtain ⟨m, hm⟩ := hG.mx
 refine (Tryz.strings_Cut s ⟨#[46]⟩ m w (by omega) hm).mono ?_
 rintro e w' ⟨rfl, n, rfl⟩
 exact ⟨rfl, below_drewN (Below.refl _ _) n⟩
def zR (s : ByteArray) : ByteArray := ⟨(Lib.trimRightB s.data.toList 48).toArray⟩
def zL (s : ByteArray) : ByteArray := ⟨(Lib.trimLeftB s.data.toList 48).toArray⟩
theorem isZ_u8 (c : UInt8) : (c == 48) = Lx.isZ c.toNat := by
 unfold Lx.isZ
 rw [Bool.eq_iff_iff, beq_iff_eq, decide_eq_true_eq]
 exact ⟨fun h => by rw [h]; rfl, fun h => UInt8.toNat_inj.1 h⟩
theorem map_dropWhile : ∀ l : List UInt8, (l.dropWhile (· == 48)).map UInt8.toNat = (l.map UInt8.toNat).dropWhile Lx.isZ
 | [] => rfl
 | a :: l => by
  rw [List.map_cons, List.dropWhile_cons, List.dropWhile_cons, isZ_u8]
  split
  ·exact map_dropWhile l
  ·rfl
theorem zL_bts (s : ByteArray) : bts (zL s) = Lx.frontZ (bts s) := map_dropWhile s.data.toList
theorem zR_bts (s : ByteArray) : bts (zR s) = Lx.backZ (bts s) := by
 show (Lib.trimRightB s.data.toList 48).map UInt8.toNat = _
 unfold Lib.trimRightB Lx.backZ
 rw [List.map_reverse, map_dropWhile, List.map_reverse]
 rfl
def nuT (neg : V) : Tree := .node (.seq (.cat (.at 4) (.at 5)) (.str [])) (tZ (it 6)) (.node (.at 7) (.node (.at 8)
 (.node (.seq (.at 10) (.str [])) (.leaf (.tup [vl (it 3) (.str []) (.bool false) (.bool false) (.str [48]) (it 0) mo0 .nils, it 0]))
  (.node (.eq (.at 11) (.int 0)) (.leaf (.tup [vl (it 3) (.str []) (.bool false) neg (xs 10) (.xi .i64 (.len (.at 9))) mo0 .nils, it 0])) (tZ (it 7)))) (tZ (it 6))) (tZ (it 6)))
def nuX (neg t : V) : List CallX := [⟨122, [xs 1, .str [45]], [], xb 2⟩, ⟨122, [xs 1, .str [43]], [], xb 3⟩, ⟨103, [t, .str [46]], [], .tup [xs 4, xs 5, xb 6]⟩, ⟨230, [xs 4], [], xb 7⟩, ⟨230, [xs 5], [], xb 8⟩, ⟨231, [xs 5, .str [48]], [], xs 9⟩,
 ⟨191, [.xs (.cat (.at 4) (.at 9)), .str [48]], [], xs 10⟩, ⟨34, [.agg [.bool false, .str [48], it 0]], [], it 0⟩, ⟨34, [.agg [neg, xs 10, .xi .i64 (.len (.at 9))]], [], xi 11⟩]
def nuF : Fx := [(.fits (.at 4) (.at 5), true), (.fits (.at 4) (.at 9), true)]
def nuS : V := .xs (.cut (.at 1) (.int 1) (.len (.at 1)))
theorem run_num1 : chk (runTr Tryz.prog nG (fun _ => none) gd moT (nuX (.bool true) nuS) 100 229 [.agg [], xs 1] h0) (nuT (.bool true)) ([(.at 2, true), (.lt (.len (.at 1)) (.int 1), false)] ++ nuF) = true := by decide +kernel
theorem run_num2 : chk (runTr Tryz.prog nG (fun _ => none) gd moT (nuX (.bool false) nuS) 100 229 [.agg [], xs 1] h0) (nuT (.bool false)) ([(.at 2, false), (.at 3, true), (.lt (.len (.at 1)) (.int 1), false)] ++ nuF) = true := by decide +kernel
theorem run_num3 : chk (runTr Tryz.prog nG (fun _ => none) gd moT (nuX (.bool false) (xs 1)) 100 229 [.agg [], xs 1] h0) (nuT (.bool false)) ([(.at 2, false), (.at 3, false)] ++ nuF) = true := by decide +kernel
def zD (t : ByteArray) : ByteArray := zL (cutA t ++ zR (cutB t))
def nuE (s t : ByteArray) (a b neg : Bool) : List Value := [.string s, .bool a, .bool b, .string (cutA t), .string (cutB t), .bool (Lib.cut t.data.toList [46]).2.2, .bool ((bts (cutA t)).all Dc.dig), .bool ((bts (cutB t)).all Dc.dig), .string (zR (cutB t)), .string (zD t), .int .i64 (ckI neg (zD t) ((zR (cutB t)).size : Int))]
theorem nil_bts {x : ByteArray} : x = ⟨#[]⟩ ↔ bts x = [] := by
 constructor
 ·intro h; rw [h]; rfl
 ·intro h; exact bts_inj (by rw [h]; rfl)
theorem nuT_at (s t : ByteArray) (a b neg : Bool) (M : Int) (hu : Dc.unsign (bts s) = (neg, bts t)) : ((nuT (.bool neg)).at (envE (.int .i64 M :: nuE s t a b neg))).den L0 (envE (.int .i64 M :: nuE s t a b neg)) = tuV (Lx.numV (readR (bts s))) := by
 have e : (nuT (.bool neg)).at (envE (.int .i64 M :: nuE s t a b neg)) = bif decide (cutA t ++ cutB t = ⟨#[]⟩) then (tZ (it 6)).at (envE (.int .i64 M :: nuE s t a b neg)) else bif (bts (cutA t)).all Dc.dig then bif (bts (cutB t)).all Dc.dig then
  bif decide (zD t = ⟨#[]⟩) then .tup [vl (it 3) (.str []) (.bool false) (.bool false) (.str [48]) (it 0) mo0 .nils, it 0] else bif decide (ckI neg (zD t) ((zR (cutB t)).size : Int) = 0) then .tup [vl (it 3) (.str []) (.bool false) (.bool neg) (xs 10) (.xi .i64 (.len (.at 9))) mo0 .nils, it 0] else (tZ (it 7)).at (envE (.int .i64 M :: nuE s t a b neg))
  else (tZ (it 6)).at (envE (.int .i64 M :: nuE s t a b neg)) else (tZ (it 6)).at (envE (.int .i64 M :: nuE s t a b neg)) := rfl
 rw [e]
 obtain ⟨c1, c2⟩ := cut_bts t
 have hz : bts (zD t) = Lx.frontZ (Dc.whole (bts t) ++ Lx.backZ (Dc.part (bts t))) := by unfold zD; rw [zL_bts, str_add, zR_bts, c1, c2]
 have hq : ((zR (cutB t)).size : Int) = ((Lx.backZ (Dc.part (bts t))).length : Int) := by rw [<- bts_length, zR_bts, c2]
 have ho : onlyL (allL (bts t)) = ((bts (cutA t)).all Dc.dig && (bts (cutB t)).all Dc.dig && !decide (cutA t ++ cutB t = ⟨#[]⟩)) := by
  unfold onlyL allL
  rw [<- c1, <- c2, List.all_append, <- str_add, bts_length]
  congr 1
  rw [<- decide_not]
  exact decide_eq_decide.2 (not_congr ⟨fun h => nil_bts.2 (List.length_eq_zero_iff.1 (by rw [bts_length]; exact h)), fun h => by rw [h]; rfl⟩)
 cases h0 : decide (cutA t ++ cutB t = ⟨#[]⟩) with
 | true =>
  rw [h0, Bool.not_true, Bool.and_false] at ho
  rw [readR_no hu ho, cond_true, tZ_den (it 6) 6 _ rfl]; rfl
 | false =>
  rw [h0, Bool.not_false, Bool.and_true] at ho
  rw [cond_false]
  cases h1 : (bts (cutA t)).all Dc.dig with
  | false => rw [h1, Bool.false_and] at ho; rw [readR_no hu ho, cond_false, tZ_den (it 6) 6 _ rfl]; rfl
  | true =>
   cases h2 : (bts (cutB t)).all Dc.dig with
   | false => rw [h2, Bool.and_false] at ho; rw [readR_no hu ho, cond_true, cond_false, tZ_den (it 6) 6 _ rfl]; rfl
   | true =>
    rw [h1, h2] at ho
    rw [cond_true, cond_true, readR_num hu ho, <- hz, <- hq, str_bts]
    by_cases h3 : zD t = ⟨#[]⟩
    ·rw [decide_eq_true h3, cond_true, if_pos (nil_bts.1 h3)]; rfl
    ·rw [decide_eq_false h3, cond_false, if_neg (fun h => h3 (nil_bts.2 h))]
     cases hk : okB neg (zD t) ((zR (cutB t)).size : Int) with
     | true => rw [ck_yes hk, if_pos rfl]; rfl
     | false => rw [ck_no hk, if_neg (by decide)]; exact tZ_den (it 7) 7 _ rfl
theorem nuX_ok (s t : ByteArray) (ht : t.size <= 1000) (a b neg : Bool) (ha : decide ((bts s).head? = some 45) = a) (hb : decide ((bts s).head? = some 43) = b) (M : Int) (tv : V) (htv : tv.den L0 (envE (.int .i64 M :: nuE s t a b neg)) = .string t) (htl : ∀ L, tv.den L (envE (.int .i64 M :: nuE s t a b neg)) = tv.den L0 (envE (.int .i64 M :: nuE s t a b neg))) :
  AllX Tryz.prog (envE (.int .i64 M :: nuE s t a b neg)) (Vars M) (nuX (.bool neg) tv) := by
 have hc := cut_bts t
 have hl := Dc.whole_part_length (bts t)
 rw [bts_length, List.length_append, <- hc.1, <- hc.2, bts_length, bts_length] at hl
 have hq : (zR (cutB t)).size <= (cutB t).size := by
  rw [<- bts_length, zR_bts, <- bts_length]
  obtain ⟨k, hk⟩ := Lx.backZ_eq (bts (cutB t))
  have := congrArg List.length hk
  rw [List.length_append] at this
  omega
 have hd : (zD t).size <= 2000 := by
  unfold zD
  rw [<- bts_length, zL_bts]
  obtain ⟨k, hk⟩ := Lx.frontZ_eq (bts (cutA t ++ zR (cutB t)))
  have := congrArg List.length hk
  rw [List.length_append, str_add, List.length_append, bts_length, bts_length] at this
  rw [str_add]
  omega
 refine ⟨⟨rfl, fk, fun _ L w _ => (pref_any s 45 a ha w).mono fun e w' ⟨h1, h2⟩ => ⟨h1, h2 ▸ Below.refl _ _⟩⟩,
  ⟨rfl, fk, fun _ L w _ => (pref_any s 43 b hb w).mono fun e w' ⟨h1, h2⟩ => ⟨h1, h2 ▸ Below.refl _ _⟩⟩,
  ⟨rfl, fk, fun _ L w hV => ?_⟩,
  ⟨rfl, fk, fun _ L w _ => xonly_is (cutA t) (by omega) w⟩,
  ⟨rfl, fk, fun _ L w _ => xonly_is (cutB t) (by omega) w⟩,
  ⟨rfl, fk, fun _ L w _ => (Tryz.strings_TrimRight_one (cutB t) 48 (by decide) w (by omega)).mono fun e w' ⟨h1, h2⟩ => ⟨h1, below_same h2⟩⟩,
  ⟨rfl, fk, fun _ L w _ => (Tryz.strings_TrimLeft_one (cutA t ++ zR (cutB t)) 48 (by decide) w).mono fun e w' ⟨h1, h2⟩ => ⟨h1, below_same h2⟩⟩,
  ⟨rfl, fk, fun _ L w _ => (pcheck_r false ⟨#[48]⟩ 0 (by decide) 0 (by decide) w).mono fun e w' ⟨h1, h2⟩ => ⟨h1, h2⟩⟩,
  ⟨rfl, fk, fun _ L w _ => (pcheck_r neg (zD t) ((zR (cutB t)).size : Int) (by omega) _ rfl w).mono fun e w' ⟨h1, h2⟩ => ⟨h1, h2⟩⟩, trivial⟩
 have e : V.dens L (envE (.int .i64 M :: nuE s t a b neg)) [tv, .str [46]] = [.string t, .string ⟨#[46]⟩] := by
  simp only [V.dens, htl, htv]; rfl
 show Calls _ _ (V.dens L (envE (.int .i64 M :: nuE s t a b neg)) [tv, .str [46]]).toArray w fun q w' => q = .returned (.tuple #[.string (cutA t), .string (cutB t), .bool (Lib.cut t.data.toList [46]).2.2]) /\ Below w.heap.size w w'
 rw [e]
 exact strings_cut46 t (by omega) w hV.good
theorem nuF_ok (s t : ByteArray) (ht : t.size <= 1000) (a b neg : Bool) (M : Int) : Fx.Ok (envE (.int .i64 M :: nuE s t a b neg)) nuF := by
 have hc := cut_bts t
 have hl := Dc.whole_part_length (bts t)
 rw [bts_length, List.length_append, <- hc.1, <- hc.2, bts_length, bts_length] at hl
 have hq : (zR (cutB t)).size <= (cutB t).size := by
  rw [<- bts_length, zR_bts, <- bts_length]
  obtain ⟨k, hk⟩ := Lx.backZ_eq (bts (cutB t))
  have := congrArg List.length hk
  rw [List.length_append] at this
  omega
 exact ⟨decide_eq_true (show (cutA t).size + (cutB t).size <= 9223372036854775807 by omega), decide_eq_true (show (cutA t).size + (zR (cutB t)).size <= 9223372036854775807 by omega), trivial⟩
theorem xnum_is (s : ByteArray) (hs : s.size <= 1000) (w : World) (M : Int) (hV : Vars M w) : Calls Tryz.prog 229 #[.agg #[], .string s] w fun e w' => e = .returned (tuV (Lx.numV (readR (bts s)))) /\ Below w.heap.size w w' := by
 by_cases h : (bts s).head? = some 45 \/ (bts s).head? = some 43
 ·obtain ⟨c, hc⟩ : ∃ c, (bts s).head? = some c := by rcases h with h | h <;> exact ⟨_, h⟩
  obtain ⟨hp, _⟩ := head_byte hc
  obtain ⟨t, ht⟩ : ∃ t, s.extract 1 s.size = t := ⟨_, rfl⟩
  have htl : t.size <= 1000 := by rw [<- bts_length, <- ht, bts_tail, List.length_tail, bts_length]; omega
  have hsz : decide ((s.size : Int) < 1) = false := decide_eq_false (by omega)
  have hcut : ∀ (a b neg : Bool) (L : Ex.Loc), nuS.den L (envE (.int .i64 M :: nuE s t a b neg)) = .string t := fun a b neg L => by
   rw [<- ht]; rfl
  by_cases h1 : (bts s).head? = some 45
  ·have hu : Dc.unsign (bts s) = (true, bts t) := by rw [<- ht]; exact unsign_minus h1
   exact tree_rv (env := nuE s t true false true) run_num1 (nuX_ok s t htl true false true (decide_eq_true h1) (decide_eq_false (by rw [h1]; decide)) M nuS (hcut _ _ _ _) (fun L => by rw [hcut, hcut])) rfl ⟨rfl, hsz, nuF_ok s t htl _ _ _ M⟩ rfl rfl (nuT_at s t _ _ true M hu) hV
  ·have h2 := h.resolve_left h1
   have hu : Dc.unsign (bts s) = (false, bts t) := by rw [<- ht]; exact unsign_plus h2
   exact tree_rv (env := nuE s t false true false) run_num2 (nuX_ok s t htl false true false (decide_eq_false h1) (decide_eq_true h2) M nuS (hcut _ _ _ _) (fun L => by rw [hcut, hcut])) rfl ⟨rfl, rfl, hsz, nuF_ok s t htl _ _ _ M⟩ rfl rfl (nuT_at s t _ _ false M hu) hV
 ·have h1 : (bts s).head? ≠ some 45 := fun e => h (.inl e)
  have h2 : (bts s).head? ≠ some 43 := fun e => h (.inr e)
  exact tree_rv (env := nuE s s false false false) run_num3 (nuX_ok s s hs false false false (decide_eq_false h1) (decide_eq_false h2) M (xs 1) rfl (fun L => rfl)) rfl ⟨rfl, rfl, nuF_ok s s hs _ _ _ M⟩ rfl rfl (nuT_at s s _ _ false M (unsign_none h1 h2)) hV
end Go.Proofs.YthoojcdjjecogaaGreatDoor
