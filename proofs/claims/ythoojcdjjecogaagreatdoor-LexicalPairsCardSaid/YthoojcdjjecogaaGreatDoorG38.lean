/-
  Part 38 of the proof: what functions return, and plain facts (Mread0 Xpread Xcheck Xhex Xtext5 Xord Xrck Xasc). Conditions: each theorem names its own.
-/
import Derived.Test.YthoojcdjjecogaaGreatDoorG36
import Derived.Test.YthoojcdjjecogaaGreatDoorG37
import Derived.Test.YthoojcdjjecogaaGreatDoorG25
import Derived.Shelf.Strings.SlTrimAscii
import Derived.Test.YthoojcdjjecogaaGreatDoorG03
import Derived.Test.YthoojcdjjecogaaGreatDoorG07
import Derived.IntWalk
import Derived.Test.YthoojcdjjecogaaGreatDoorG20
import Derived.Test.YthoojcdjjecogaaGreatDoorG33
set_option maxRecDepth 1000000
set_option maxHeartbeats 16000000
namespace Go.Proofs.YthoojcdjjecogaaGreatDoor
open Go Go.RowKit
open Go.Ex Go.Shelf
def mo0 : List V := [it 0, it 0, it 0, it 0, it 0, it 0, .bool false, .str [], it 0, .bool false, it 0]
def moL (b : Nat) : List V := [xi b, xi (b + 1), xi (b + 2), xi (b + 3), xi (b + 4), xi (b + 5), xb (b + 6), xs (b + 7), xi (b + 8), xb (b + 9), xi (b + 10)]
def vl (k t b n s S : V) (m : List V) (l : V) : V := .agg ([k, t, b, n, s, S] ++ m ++ [l])
def vaV (b : Nat) (l : V) : V := vl (xi b) (xs (b + 1)) (xb (b + 2)) (xb (b + 3)) (xs (b + 4)) (xi (b + 5)) (moL (b + 6)) l
def tZ (e : V) : Tree := .leaf (.tup [vl (it 0) (.str []) (.bool false) (.bool false) (.str []) (it 0) mo0 .nils, e])
def tuV (r : Vl × Int) : Value := .tuple #[r.1.val nilL, .int .i64 r.2]
theorem tZ_den (e : V) (c : Int) (E : Nat -> Value) (h : e.den L0 E = .int .i64 c) : ((tZ e).at E).den L0 E = tuV (Lx.zero, c) := by
 simp only [tZ, Tree.at, V.den, V.dens, h]
 rfl
def c10 : List Nat := [48, 49, 50, 51, 52, 53, 54, 55, 56, 57]
def trimD (s : ByteArray) : ByteArray := ⟨(Lib.trimS s.data.toList (c10.map UInt8.ofNat)).toArray⟩
theorem strings_trimD (s : ByteArray) (hs : s.size <= 1000000) (w : World) : Calls Tryz.prog 232 #[.string s, .string ⟨#[48, 49, 50, 51, 52, 53, 54, 55, 56, 57]⟩] w fun e w' => e = .returned (.string (trimD s)) /\ Below w.heap.size w w' :=
 Any.strings_Trim_laid Tryz.lays160 (by kernel_rfl) s ⟨#[48, 49, 50, 51, 52, 53, 54, 55, 56, 57]⟩ w (by omega) (by decide) (ascii_of_all (by decide))
theorem dig_u8 (c : UInt8) : (c10.map UInt8.ofNat).contains c = Dc.dig c.toNat := by
 have h : ∀ n : Fin 256, (c10.map UInt8.ofNat).contains (UInt8.ofNat n.val) = Dc.dig n.val := by decide +kernel
 have := h ⟨c.toNat, c.toNat_lt⟩
 simpa using this
theorem dropWhile_nil {α : Type} {p : α -> Bool} : ∀ {l : List α}, l.dropWhile p = [] ↔ l.all p = true
 | [] => by simp
 | a :: l => by
  rw [List.dropWhile_cons, List.all_cons]
  split
  ·rename_i h; rw [h, Bool.true_and]; exact dropWhile_nil
  ·rename_i h; simp [h]
theorem trimD_nil (s : ByteArray) : decide (trimD s = ⟨#[]⟩) = (bts s).all Dc.dig := by
 have e1 : (trimD s = ⟨#[]⟩) ↔ Lib.trimS s.data.toList (c10.map UInt8.ofNat) = [] := by
  unfold trimD
  constructor
  ·intro h; have := congrArg (fun b : ByteArray => b.data.toList) h; simpa using this
  ·intro h; rw [h]
 have e2 : (bts s).all Dc.dig = s.data.toList.all fun c => (c10.map UInt8.ofNat).contains c := by
  unfold bts
  rw [List.all_map]
  congr 1
  funext c
  rw [dig_u8]; rfl
 rw [e2, Bool.eq_iff_iff, decide_eq_true_eq, e1]
 unfold Lib.trimS Lib.trimRightS Lib.trimLeftS
 constructor
 ·intro h
  rw [dropWhile_nil, List.all_reverse] at h
  cases hr : s.data.toList.reverse.dropWhile ((c10.map UInt8.ofNat).contains ·) with
  | nil => rw [<- List.all_reverse]; exact dropWhile_nil.1 hr
  | cons a r =>
   rw [hr, List.all_cons, Bool.and_eq_true] at h
   have := List.head_dropWhile_not (fun x => (c10.map UInt8.ofNat).contains x) (l := s.data.toList.reverse) (by rw [hr]; exact List.cons_ne_nil _ _)
   simp only [hr, List.head_cons] at this
   rw [this] at h
   cases h.1
 ·intro h
  rw [<- List.all_reverse] at h
  rw [dropWhile_nil.2 h]; rfl
theorem below_same {w w' : World} (h : w' = w) : Below w.heap.size w w' := by rw [h]; exact Below.refl _ _
theorem run_only : chk (runTr Tryz.prog nG (fun _ => none) (fun _ => true) deT [⟨232, [xs 1, .str c10], [], xs 2⟩] 100 230 [xs 1] hN) (.node (.seq (.at 2) (.str [])) (.leaf (.bool true)) (.leaf (.bool false))) [] = true := by decide +kernel
theorem xonly_is (s : ByteArray) (hs : s.size <= 1000000) (w : World) : Calls Tryz.prog 230 #[.string s] w fun e w' => e = .returned (.bool ((bts s).all Dc.dig)) /\ Below w.heap.size w w' := by
 refine tree_nv (env := [.string s, .string (trimD s)]) run_only ⟨⟨rfl, fk, fun _ L w _ => strings_trimD s hs w⟩, trivial⟩ rfl trivial rfl rfl ?_
 rw [<- trimD_nil s]
 show ((bif decide (trimD s = ⟨#[]⟩) then V.bool true else V.bool false)).den L0 _ = _
 cases decide (trimD s = ⟨#[]⟩) <;> rfl
def trT : Tree := .node (.seq (.at 1) (.str [116, 114, 117, 101])) (.leaf (.tup [vl (it 2) (.str []) (.bool true) (.bool false) (.str []) (it 0) mo0 .nils, it 0])) (.node (.seq (.at 1) (.str [49])) (.leaf (.tup [vl (it 2) (.str []) (.bool true) (.bool false) (.str []) (it 0) mo0 .nils, it 0]))
 (.node (.seq (.at 1) (.str [102, 97, 108, 115, 101])) (.leaf (.tup [vl (it 2) (.str []) (.bool false) (.bool false) (.str []) (it 0) mo0 .nils, it 0])) (.node (.seq (.at 1) (.str [48])) (.leaf (.tup [vl (it 2) (.str []) (.bool false) (.bool false) (.str []) (it 0) mo0 .nils, it 0])) (tZ (it 6)))))
theorem run_truth : chk (runTr Tryz.prog nG (fun _ => none) (fun _ => true) deT [] 100 228 [.agg [], xs 1] hN) trT [] = true := by decide +kernel
theorem xtruth_is (s : ByteArray) (w : World) : Calls Tryz.prog 228 #[.agg #[], .string s] w fun e w' => e = .returned (tuV (Lx.truthV s)) /\ Below w.heap.size w w' := by
 refine tree_nv (env := [.string s]) run_truth trivial rfl trivial rfl rfl ?_
 have e : trT.at (envE [.int .i64 0, .string s]) = bif decide (s = Lx.strT) then .tup [vl (it 2) (.str []) (.bool true) (.bool false) (.str []) (it 0) mo0 .nils, it 0] else bif decide (s = ⟨#[49]⟩) then .tup [vl (it 2) (.str []) (.bool true) (.bool false) (.str []) (it 0) mo0 .nils, it 0] else
  bif decide (s = Lx.strF) then .tup [vl (it 2) (.str []) (.bool false) (.bool false) (.str []) (it 0) mo0 .nils, it 0] else bif decide (s = ⟨#[48]⟩) then .tup [vl (it 2) (.str []) (.bool false) (.bool false) (.str []) (it 0) mo0 .nils, it 0] else (tZ (it 6)).at (envE [.int .i64 0, .string s]) := rfl
 rw [e]
 unfold Lx.truthV
 by_cases h1 : s = Lx.strT
 ·rw [decide_eq_true h1, if_pos (.inl h1)]; rfl
 ·by_cases h2 : s = ⟨#[49]⟩
  ·rw [decide_eq_false h1, decide_eq_true h2, if_pos (.inr h2)]; rfl
  ·rw [decide_eq_false h1, decide_eq_false h2, if_neg (fun h => h.elim h1 h2)]
   by_cases h3 : s = Lx.strF
   ·rw [decide_eq_true h3, if_pos (.inl h3)]; rfl
   ·by_cases h4 : s = ⟨#[48]⟩
    ·rw [decide_eq_false h3, decide_eq_true h4, if_pos (.inr h4)]; rfl
    ·rw [decide_eq_false h3, decide_eq_false h4, if_neg (fun h => h.elim h3 h4)]; rfl
def cutA (s : ByteArray) : ByteArray := ⟨(Lib.cut s.data.toList [46]).1.toArray⟩
def cutB (s : ByteArray) : ByteArray := ⟨(Lib.cut s.data.toList [46]).2.1.toArray⟩
theorem cut_bts (s : ByteArray) : bts (cutA s) = Dc.whole (bts s) /\ bts (cutB s) = Dc.part (bts s) := cut_dot s.data.toList
theorem strings_cut46 (s : ByteArray) (hs : s.size <= 1000000) (w : World) (hG : Good w) : Calls Tryz.prog 103 #[.string s, .string ⟨#[46]⟩] w fun e w' => e = .returned (.tuple #[.string (cutA s), .string (cutB s), .bool (Lib.cut s.data.toList [46]).2.2]) /\ Below w.heap.size w w' := by
 obtain ⟨m, hm⟩ := hG.mx
 refine (Tryz.strings_Cut s ⟨#[46]⟩ m w (by omega) hm).mono ?_
 rintro e w' ⟨rfl, n, rfl⟩
 exact ⟨rfl, below_drewN (Below.refl _ _) n⟩
def zR (s : ByteArray) : ByteArray := ⟨(Lib.trimRightB s.data.toList 48).toArray⟩
def zL (s : ByteArray) : ByteArray := ⟨(Lib.trimLeftB s.data.toList 48).toArray⟩
theorem isZ_u8 (c : UInt8) : (c == 48) = Lx.isZ c.toNat := by
 unfold Lx.isZ
 rw [Bool.eq_iff_iff, beq_iff_eq, decide_eq_true_eq]
 exact ⟨fun h => by rw [h]; rfl, fun h => UInt8.toNat_inj.1 h⟩
theorem map_dropWhile : ∀ l : List UInt8, (l.dropWhile (· == 48)).map UInt8.toNat = (l.map UInt8.toNat).dropWhile Lx.isZ
 | [] => rfl
 | a :: l => by
  rw [List.map_cons, List.dropWhile_cons, List.dropWhile_cons, isZ_u8]
  split
  ·exact map_dropWhile l
  ·rfl
theorem zL_bts (s : ByteArray) : bts (zL s) = Lx.frontZ (bts s) := map_dropWhile s.data.toList
theorem zR_bts (s : ByteArray) : bts (zR s) = Lx.backZ (bts s) := by
 show (Lib.trimRightB s.data.toList 48).map UInt8.toNat = _
 unfold Lib.trimRightB Lx.backZ
 rw [List.map_reverse, map_dropWhile, List.map_reverse]
 rfl
def nuT (neg : V) : Tree := .node (.seq (.cat (.at 4) (.at 5)) (.str [])) (tZ (it 6)) (.node (.at 7) (.node (.at 8)
 (.node (.seq (.at 10) (.str [])) (.leaf (.tup [vl (it 3) (.str []) (.bool false) (.bool false) (.str [48]) (it 0) mo0 .nils, it 0]))
  (.node (.eq (.at 11) (.int 0)) (.leaf (.tup [vl (it 3) (.str []) (.bool false) neg (xs 10) (.xi .i64 (.len (.at 9))) mo0 .nils, it 0])) (tZ (it 7)))) (tZ (it 6))) (tZ (it 6)))
def nuX (neg t : V) : List CallX := [⟨122, [xs 1, .str [45]], [], xb 2⟩, ⟨122, [xs 1, .str [43]], [], xb 3⟩, ⟨103, [t, .str [46]], [], .tup [xs 4, xs 5, xb 6]⟩, ⟨230, [xs 4], [], xb 7⟩, ⟨230, [xs 5], [], xb 8⟩, ⟨231, [xs 5, .str [48]], [], xs 9⟩,
 ⟨191, [.xs (.cat (.at 4) (.at 9)), .str [48]], [], xs 10⟩, ⟨34, [.agg [.bool false, .str [48], it 0]], [], it 0⟩, ⟨34, [.agg [neg, xs 10, .xi .i64 (.len (.at 9))]], [], xi 11⟩]
def nuF : Fx := [(.fits (.at 4) (.at 5), true), (.fits (.at 4) (.at 9), true)]
def nuS : V := .xs (.cut (.at 1) (.int 1) (.len (.at 1)))
theorem run_num1 : chk (runTr Tryz.prog nG (fun _ => none) gd moT (nuX (.bool true) nuS) 100 229 [.agg [], xs 1] h0) (nuT (.bool true)) ([(.at 2, true), (.lt (.len (.at 1)) (.int 1), false)] ++ nuF) = true := by decide +kernel
theorem run_num2 : chk (runTr Tryz.prog nG (fun _ => none) gd moT (nuX (.bool false) nuS) 100 229 [.agg [], xs 1] h0) (nuT (.bool false)) ([(.at 2, false), (.at 3, true), (.lt (.len (.at 1)) (.int 1), false)] ++ nuF) = true := by decide +kernel
theorem run_num3 : chk (runTr Tryz.prog nG (fun _ => none) gd moT (nuX (.bool false) (xs 1)) 100 229 [.agg [], xs 1] h0) (nuT (.bool false)) ([(.at 2, false), (.at 3, false)] ++ nuF) = true := by decide +kernel
def zD (t : ByteArray) : ByteArray := zL (cutA t ++ zR (cutB t))
def nuE (s t : ByteArray) (a b neg : Bool) : List Value := [.string s, .bool a, .bool b, .string (cutA t), .string (cutB t), .bool (Lib.cut t.data.toList [46]).2.2, .bool ((bts (cutA t)).all Dc.dig), .bool ((bts (cutB t)).all Dc.dig), .string (zR (cutB t)), .string (zD t), .int .i64 (ckI neg (zD t) ((zR (cutB t)).size : Int))]
theorem nil_bts {x : ByteArray} : x = ⟨#[]⟩ ↔ bts x = [] := by
 constructor
 ·intro h; rw [h]; rfl
 ·intro h; exact bts_inj (by rw [h]; rfl)
theorem nuT_at (s t : ByteArray) (a b neg : Bool) (M : Int) (hu : Dc.unsign (bts s) = (neg, bts t)) : ((nuT (.bool neg)).at (envE (.int .i64 M :: nuE s t a b neg))).den L0 (envE (.int .i64 M :: nuE s t a b neg)) = tuV (Lx.numV (readR (bts s))) := by
 have e : (nuT (.bool neg)).at (envE (.int .i64 M :: nuE s t a b neg)) = bif decide (cutA t ++ cutB t = ⟨#[]⟩) then (tZ (it 6)).at (envE (.int .i64 M :: nuE s t a b neg)) else bif (bts (cutA t)).all Dc.dig then bif (bts (cutB t)).all Dc.dig then
  bif decide (zD t = ⟨#[]⟩) then .tup [vl (it 3) (.str []) (.bool false) (.bool false) (.str [48]) (it 0) mo0 .nils, it 0] else bif decide (ckI neg (zD t) ((zR (cutB t)).size : Int) = 0) then .tup [vl (it 3) (.str []) (.bool false) (.bool neg) (xs 10) (.xi .i64 (.len (.at 9))) mo0 .nils, it 0] else (tZ (it 7)).at (envE (.int .i64 M :: nuE s t a b neg))
  else (tZ (it 6)).at (envE (.int .i64 M :: nuE s t a b neg)) else (tZ (it 6)).at (envE (.int .i64 M :: nuE s t a b neg)) := rfl
 rw [e]
 obtain ⟨c1, c2⟩ := cut_bts t
 have hz : bts (zD t) = Lx.frontZ (Dc.whole (bts t) ++ Lx.backZ (Dc.part (bts t))) := by unfold zD; rw [zL_bts, str_add, zR_bts, c1, c2]
 have hq : ((zR (cutB t)).size : Int) = ((Lx.backZ (Dc.part (bts t))).length : Int) := by rw [<- bts_length, zR_bts, c2]
 have ho : onlyL (allL (bts t)) = ((bts (cutA t)).all Dc.dig && (bts (cutB t)).all Dc.dig && !decide (cutA t ++ cutB t = ⟨#[]⟩)) := by
  unfold onlyL allL
  rw [<- c1, <- c2, List.all_append, <- str_add, bts_length]
  congr 1
  rw [<- decide_not]
  exact decide_eq_decide.2 (not_congr ⟨fun h => nil_bts.2 (List.length_eq_zero_iff.1 (by rw [bts_length]; exact h)), fun h => by rw [h]; rfl⟩)
 cases h0 : decide (cutA t ++ cutB t = ⟨#[]⟩) with
 | true =>
  rw [h0, Bool.not_true, Bool.and_false] at ho
  rw [readR_no hu ho, cond_true, tZ_den (it 6) 6 _ rfl]; rfl
 | false =>
  rw [h0, Bool.not_false, Bool.and_true] at ho
  rw [cond_false]
  cases h1 : (bts (cutA t)).all Dc.dig with
  | false => rw [h1, Bool.false_and] at ho; rw [readR_no hu ho, cond_false, tZ_den (it 6) 6 _ rfl]; rfl
  | true =>
   cases h2 : (bts (cutB t)).all Dc.dig with
   | false => rw [h2, Bool.and_false] at ho; rw [readR_no hu ho, cond_true, cond_false, tZ_den (it 6) 6 _ rfl]; rfl
   | true =>
    rw [h1, h2] at ho
    rw [cond_true, cond_true, readR_num hu ho, <- hz, <- hq, str_bts]
    by_cases h3 : zD t = ⟨#[]⟩
    ·rw [decide_eq_true h3, cond_true, if_pos (nil_bts.1 h3)]; rfl
    ·rw [decide_eq_false h3, cond_false, if_neg (fun h => h3 (nil_bts.2 h))]
     cases hk : okB neg (zD t) ((zR (cutB t)).size : Int) with
     | true => rw [ck_yes hk, if_pos rfl]; rfl
     | false => rw [ck_no hk, if_neg (by decide)]; exact tZ_den (it 7) 7 _ rfl
theorem nuX_ok (s t : ByteArray) (ht : t.size <= 1000) (a b neg : Bool) (ha : decide ((bts s).head? = some 45) = a) (hb : decide ((bts s).head? = some 43) = b) (M : Int) (tv : V) (htv : tv.den L0 (envE (.int .i64 M :: nuE s t a b neg)) = .string t) (htl : ∀ L, tv.den L (envE (.int .i64 M :: nuE s t a b neg)) = tv.den L0 (envE (.int .i64 M :: nuE s t a b neg))) :
  AllX Tryz.prog (envE (.int .i64 M :: nuE s t a b neg)) (Vars M) (nuX (.bool neg) tv) := by
 have hc := cut_bts t
 have hl := Dc.whole_part_length (bts t)
 rw [bts_length, List.length_append, <- hc.1, <- hc.2, bts_length, bts_length] at hl
 have hq : (zR (cutB t)).size <= (cutB t).size := by
  rw [<- bts_length, zR_bts, <- bts_length]
  obtain ⟨k, hk⟩ := Lx.backZ_eq (bts (cutB t))
  have := congrArg List.length hk
  rw [List.length_append] at this
  omega
 have hd : (zD t).size <= 2000 := by
  unfold zD
  rw [<- bts_length, zL_bts]
  obtain ⟨k, hk⟩ := Lx.frontZ_eq (bts (cutA t ++ zR (cutB t)))
  have := congrArg List.length hk
  rw [List.length_append, str_add, List.length_append, bts_length, bts_length] at this
  rw [str_add]
  omega
 refine ⟨⟨rfl, fk, fun _ L w _ => (pref_any s 45 a ha w).mono fun e w' ⟨h1, h2⟩ => ⟨h1, h2 ▸ Below.refl _ _⟩⟩,
  ⟨rfl, fk, fun _ L w _ => (pref_any s 43 b hb w).mono fun e w' ⟨h1, h2⟩ => ⟨h1, h2 ▸ Below.refl _ _⟩⟩,
  ⟨rfl, fk, fun _ L w hV => ?_⟩,
  ⟨rfl, fk, fun _ L w _ => xonly_is (cutA t) (by omega) w⟩,
  ⟨rfl, fk, fun _ L w _ => xonly_is (cutB t) (by omega) w⟩,
  ⟨rfl, fk, fun _ L w _ => (Tryz.strings_TrimRight_one (cutB t) 48 (by decide) w (by omega)).mono fun e w' ⟨h1, h2⟩ => ⟨h1, below_same h2⟩⟩,
  ⟨rfl, fk, fun _ L w _ => (Tryz.strings_TrimLeft_one (cutA t ++ zR (cutB t)) 48 (by decide) w).mono fun e w' ⟨h1, h2⟩ => ⟨h1, below_same h2⟩⟩,
  ⟨rfl, fk, fun _ L w _ => (pcheck_r false ⟨#[48]⟩ 0 (by decide) 0 (by decide) w).mono fun e w' ⟨h1, h2⟩ => ⟨h1, h2⟩⟩,
  ⟨rfl, fk, fun _ L w _ => (pcheck_r neg (zD t) ((zR (cutB t)).size : Int) (by omega) _ rfl w).mono fun e w' ⟨h1, h2⟩ => ⟨h1, h2⟩⟩, trivial⟩
 have e : V.dens L (envE (.int .i64 M :: nuE s t a b neg)) [tv, .str [46]] = [.string t, .string ⟨#[46]⟩] := by
  simp only [V.dens, htl, htv]; rfl
 show Calls _ _ (V.dens L (envE (.int .i64 M :: nuE s t a b neg)) [tv, .str [46]]).toArray w fun q w' => q = .returned (.tuple #[.string (cutA t), .string (cutB t), .bool (Lib.cut t.data.toList [46]).2.2]) /\ Below w.heap.size w w'
 rw [e]
 exact strings_cut46 t (by omega) w hV.good
theorem nuF_ok (s t : ByteArray) (ht : t.size <= 1000) (a b neg : Bool) (M : Int) : Fx.Ok (envE (.int .i64 M :: nuE s t a b neg)) nuF := by
 have hc := cut_bts t
 have hl := Dc.whole_part_length (bts t)
 rw [bts_length, List.length_append, <- hc.1, <- hc.2, bts_length, bts_length] at hl
 have hq : (zR (cutB t)).size <= (cutB t).size := by
  rw [<- bts_length, zR_bts, <- bts_length]
  obtain ⟨k, hk⟩ := Lx.backZ_eq (bts (cutB t))
  have := congrArg List.length hk
  rw [List.length_append] at this
  omega
 exact ⟨decide_eq_true (show (cutA t).size + (cutB t).size <= 9223372036854775807 by omega), decide_eq_true (show (cutA t).size + (zR (cutB t)).size <= 9223372036854775807 by omega), trivial⟩
theorem xnum_is (s : ByteArray) (hs : s.size <= 1000) (w : World) (M : Int) (hV : Vars M w) : Calls Tryz.prog 229 #[.agg #[], .string s] w fun e w' => e = .returned (tuV (Lx.numV (readR (bts s)))) /\ Below w.heap.size w w' := by
 by_cases h : (bts s).head? = some 45 \/ (bts s).head? = some 43
 ·obtain ⟨c, hc⟩ : ∃ c, (bts s).head? = some c := by rcases h with h | h <;> exact ⟨_, h⟩
  obtain ⟨hp, _⟩ := head_byte hc
  obtain ⟨t, ht⟩ : ∃ t, s.extract 1 s.size = t := ⟨_, rfl⟩
  have htl : t.size <= 1000 := by rw [<- bts_length, <- ht, bts_tail, List.length_tail, bts_length]; omega
  have hsz : decide ((s.size : Int) < 1) = false := decide_eq_false (by omega)
  have hcut : ∀ (a b neg : Bool) (L : Ex.Loc), nuS.den L (envE (.int .i64 M :: nuE s t a b neg)) = .string t := fun a b neg L => by
   rw [<- ht]; rfl
  by_cases h1 : (bts s).head? = some 45
  ·have hu : Dc.unsign (bts s) = (true, bts t) := by rw [<- ht]; exact unsign_minus h1
   exact tree_rv (env := nuE s t true false true) run_num1 (nuX_ok s t htl true false true (decide_eq_true h1) (decide_eq_false (by rw [h1]; decide)) M nuS (hcut _ _ _ _) (fun L => by rw [hcut, hcut])) rfl ⟨rfl, hsz, nuF_ok s t htl _ _ _ M⟩ rfl rfl (nuT_at s t _ _ true M hu) hV
  ·have h2 := h.resolve_left h1
   have hu : Dc.unsign (bts s) = (false, bts t) := by rw [<- ht]; exact unsign_plus h2
   exact tree_rv (env := nuE s t false true false) run_num2 (nuX_ok s t htl false true false (decide_eq_false h1) (decide_eq_true h2) M nuS (hcut _ _ _ _) (fun L => by rw [hcut, hcut])) rfl ⟨rfl, rfl, hsz, nuF_ok s t htl _ _ _ M⟩ rfl rfl (nuT_at s t _ _ false M hu) hV
 ·have h1 : (bts s).head? ≠ some 45 := fun e => h (.inl e)
  have h2 : (bts s).head? ≠ some 43 := fun e => h (.inr e)
  exact tree_rv (env := nuE s s false false false) run_num3 (nuX_ok s s hs false false false (decide_eq_false h1) (decide_eq_false h2) M (xs 1) rfl (fun L => rfl)) rfl ⟨rfl, rfl, nuF_ok s s hs _ _ _ M⟩ rfl rfl (nuT_at s s _ _ false M (unsign_none h1 h2)) hV
end Go.Proofs.YthoojcdjjecogaaGreatDoor
namespace Go.Proofs.YthoojcdjjecogaaGreatDoor
open Go Go.RowKit Go.Ex
def chT : List (X × Bool) -> Tree -> Tree -> Tree
 | [], y, _ => y
 | (e, true) :: l, y, n => .node e (chT l y n) n
 | (e, false) :: l, y, n => .node e n (chT l y n)
def chB (E : Nat -> Value) (l : List (X × Bool)) : Bool := l.all fun p => p.1.evB E == p.2
theorem chT_at (E : Nat -> Value) (y n : Tree) : ∀ l : List (X × Bool), (chT l y n).at E = bif chB E l then y.at E else n.at E
 | [] => rfl
 | (e, true) :: l => by
  have ih := chT_at E y n l
  simp only [chT, Tree.at, ih, chB, List.all_cons]
  cases e.evB E <;> rfl
 | (e, false) :: l => by
  have ih := chT_at E y n l
  simp only [chT, Tree.at, ih, chB, List.all_cons]
  cases e.evB E <;> rfl
theorem chB_append (E : Nat -> Value) (l m : List (X × Bool)) : chB E (l ++ m) = (chB E l && chB E m) := List.all_append
def vaK (k : Int) (b : Nat) (l : V) : V := vl (it k) (xs (b + 1)) (xb (b + 2)) (xb (b + 3)) (xs (b + 4)) (xi (b + 5)) (moL (b + 6)) l
def bcT (b : Nat) : List (X × Bool) := [(.seq (.at (b + 1)) (.str []), true)]
def bcB (b : Nat) : List (X × Bool) := [(.at (b + 2), false)]
def bcD (b : Nat) : List (X × Bool) := [(.beq (.at (b + 3)) (.tt false), true), (.seq (.at (b + 4)) (.str []), true), (.eq (.at (b + 5)) (.int 0), true)]
def bcM (b : Nat) : List (X × Bool) := [(.eq (.at (b + 6)) (.int 0), true), (.eq (.at (b + 7)) (.int 0), true), (.eq (.at (b + 8)) (.int 0), true), (.eq (.at (b + 9)) (.int 0), true), (.eq (.at (b + 10)) (.int 0), true), (.eq (.at (b + 11)) (.int 0), true), (.beq (.at (b + 12)) (.tt false), true), (.seq (.at (b + 13)) (.str []), true), (.eq (.at (b + 14)) (.int 0), true), (.beq (.at (b + 15)) (.tt false), true), (.eq (.at (b + 16)) (.int 0), true)]
def bcL (b : Nat) : List (X × Bool) := [(.eq (.slen (b + 17)) (.int 0), true)]
def bcK (b : Nat) (k : Int) : List (X × Bool) := (if k = 1 \/ k = 5 then [] else bcT b) ++ (if k = 2 then [] else bcB b) ++ (if k = 3 then [] else bcD b) ++ (if k = 4 then [] else bcM b) ++ (if k = 6 then [] else bcL b)
def yesT : Tree := .leaf (.bool true)
def noT : Tree := .leaf (.bool false)
def noKi : Fx := [(.eq (.at 1) (.int 1), false), (.eq (.at 1) (.int 5), false), (.eq (.at 1) (.int 2), false), (.eq (.at 1) (.int 3), false), (.eq (.at 1) (.int 4), false), (.eq (.at 1) (.int 6), false), (.isSl 18, true)]
theorem run_bare : ∀ k ∈ [(1 : Int), 2, 3, 4, 5, 6], chk (runTr Tryz.prog nG (fun _ => none) (fun _ => true) moT [] 100 38 [vaK k 1 (.atom 18)] hN) (chT (bcK 1 k) yesT noT) [(.isSl 18, true)] = true := by decide +kernel
theorem run_bare0 : chk (runTr Tryz.prog nG (fun _ => none) (fun _ => true) moT [] 100 38 [vaV 1 (.atom 18)] hN) (chT (bcK 1 0) yesT noT) noKi = true := by decide +kernel
def SliceN (l : Value) (n : Nat) : Prop := ∃ a c, l = .slice a n c
theorem nilL_slice : SliceN nilL 0 := ⟨_, _, rfl⟩
def vE (v : Vl) (l : Value) : List Value := v.list ++ [l]
theorem mo_nilB (m : Mo) (E : Nat -> Value) (b : Nat) (h : ∀ i, i < 11 -> E (b + 6 + i) = m.list.getD i (.bool false)) : chB E (bcM b) = valsEq m.list Mo.nil.list := by
 have h0 := h 0 (by decide)
 have h1 := h 1 (by decide)
 have h2 := h 2 (by decide)
 have h3 := h 3 (by decide)
 have h4 := h 4 (by decide)
 have h5 := h 5 (by decide)
 have h6 := h 6 (by decide)
 have h7 := h 7 (by decide)
 have h8 := h 8 (by decide)
 have h9 := h 9 (by decide)
 have h10 := h 10 (by decide)
 simp only [Mo.list, List.getD_cons_zero, List.getD_cons_succ, Nat.add_zero, Nat.add_assoc, Nat.reduceAdd] at h0 h1 h2 h3 h4 h5 h6 h7 h8 h9 h10
 simp only [chB, bcM, List.all_cons, List.all_nil, X.evB, X.evI, X.evS, h0, h1, h2, h3, h4, h5, h6, h7, h8, h9, h10, Mo.list, Mo.nil, valsEq, beq_true]
 rfl
theorem bcK_at (v : Vl) (l : Value) (n : Nat) (hl : SliceN l n) (E : Nat -> Value) (b : Nat) (h : ∀ i, i < 18 -> E (b + i) = (vE v l).getD i (.bool false)) (k : Int) (hk : v.k = k \/ (k = 0 /\ v.k ≠ 1 /\ v.k ≠ 2 /\ v.k ≠ 3 /\ v.k ≠ 4 /\ v.k ≠ 5 /\ v.k ≠ 6)) :
  chB E (bcK b k) = (Lx.bareB v && (decide (v.k = 6) || decide (n = 0))) := by
 obtain ⟨a, c, rfl⟩ := hl
 have h1 := h 1 (by decide)
 have h2 := h 2 (by decide)
 have h3 := h 3 (by decide)
 have h4 := h 4 (by decide)
 have h5 := h 5 (by decide)
 have h17 := h 17 (by decide)
 have hM := mo_nilB v.m E b (fun i hi => by rw [Nat.add_assoc, h (6 + i) (by omega)]; unfold vE Vl.list; rw [List.append_assoc, List.getD_eq_getElem?_getD, List.getElem?_append_right (by simp), List.getElem?_append_left (by simp [Mo.list]; omega)]; simp [List.getD_eq_getElem?_getD])
 simp only [vE, Vl.list, Mo.list, List.cons_append, List.nil_append, List.getD_cons_zero, List.getD_cons_succ] at h1 h2 h3 h4 h5 h17
 have hT : chB E (bcT b) = decide (v.t = ⟨#[]⟩) := by simp only [chB, bcT, List.all_cons, List.all_nil, X.evB, X.evS, h1, Bool.and_true, beq_true]; rfl
 have hB : chB E (bcB b) = !v.b := by simp only [chB, bcB, List.all_cons, List.all_nil, X.evB, h2, Bool.and_true]; cases v.b <;> rfl
 have hD : chB E (bcD b) = (!v.n && decide (v.s = ⟨#[]⟩) && decide (v.S = 0)) := by
  simp only [chB, bcD, List.all_cons, List.all_nil, X.evB, X.evS, X.evI, h3, h4, h5, Bool.and_true, beq_true]
  cases v.n <;> rfl
 have hL : chB E (bcL b) = decide (n = 0) := by
  simp only [chB, bcL, List.all_cons, List.all_nil, X.evB, X.evI, h17, Bool.and_true, beq_true]
  exact decide_eq_decide.2 (by omega)
 have key : ∀ (p : Prop) [Decidable p] (x : List (X × Bool)), chB E (if p then [] else x) = (decide p || chB E x) := fun p _ x => by
  by_cases hp : p
  ·rw [if_pos hp, decide_eq_true hp]; rfl
  ·rw [if_neg hp, decide_eq_false hp]; rfl
 unfold bcK Lx.bareB
 rw [chB_append, chB_append, chB_append, chB_append, key, key, key, key, key, hT, hB, hD, hM, hL]
 rcases hk with rfl | ⟨rfl, k1, k2, k3, k4, k5, k6⟩
 ·rw [show decide (v.k = 1 \/ v.k = 5) = (decide (v.k = 1) || decide (v.k = 5)) by simp]
 ·rw [decide_eq_false k1, decide_eq_false k2, decide_eq_false k3, decide_eq_false k4, decide_eq_false k5, decide_eq_false k6]
  simp
end Go.Proofs.YthoojcdjjecogaaGreatDoor
namespace Go.Proofs.YthoojcdjjecogaaGreatDoor
open Go Go.RowKit
namespace Lx
def halfI (c : Nat) : Int := match half c with
 | some n => (n : Int)
 | none => -1
theorem half_lt {c n : Nat} (h : half c = some n) : n < 16 := by
 unfold half at h
 split at h
 ·cases h; omega
 ·split at h
  ·cases h; omega
  ·split at h
   ·cases h; omega
   ·cases h
theorem hexL_step {a b x y : Nat} {r : List Nat} (h1 : half a = some x) (h2 : half b = some y) : hexL (a :: b :: r) = (hexL r).map ((16 * x + y) :: ·) := by
 rw [hexL, h1, h2]; rfl
theorem hexL_bad {a b : Nat} {r : List Nat} (h : half a = none \/ half b = none) : hexL (a :: b :: r) = none := by
 rw [hexL]
 rcases h with h | h
 ·rw [h]; rfl
 ·rw [h]; cases half a <;> rfl
theorem hexL_odd : ∀ (n : Nat) (l : List Nat), l.length = 2 * n + 1 -> hexL l = none
 | _, [], h => by simp at h
 | _, [_], _ => rfl
 | 0, _ :: _ :: r, h => by simp at h
 | n + 1, a :: b :: r, h => by
  have := hexL_odd n r (by simp at h; omega)
  rw [hexL, this]
  cases half a <;> cases half b <;> rfl
def Hexed (l : List Nat) (k : Nat) (o : List Nat) : Prop := hexL l = (hexL (l.drop (2 * k))).map (o ++ ·) /\ o.length = k /\ ∀ c ∈ o, c < 256
theorem Hexed.start (l : List Nat) : Hexed l 0 [] := ⟨by simp, rfl, by simp⟩
theorem Hexed.done {l : List Nat} {k : Nat} {o : List Nat} (h : Hexed l k o) (hk : l.length <= 2 * k) : hexL l = some o := by
 rw [h.1, List.drop_eq_nil_of_le hk]; simp [hexL]
theorem drop2 {l : List Nat} {k : Nat} (h : k + 1 < l.length) : l.drop k = l.getD k 0 :: l.getD (k + 1) 0 :: l.drop (k + 2) := by
 rw [List.drop_eq_getElem_cons (by omega), List.drop_eq_getElem_cons h]
 simp [List.getD_eq_getElem?_getD, List.getElem?_eq_getElem (show k < l.length by omega), List.getElem?_eq_getElem h]
theorem Hexed.next {l : List Nat} {k x y : Nat} {o : List Nat} (h : Hexed l k o) (hk : 2 * k + 1 < l.length) (h1 : half (l.getD (2 * k) 0) = some x) (h2 : half (l.getD (2 * k + 1) 0) = some y) : Hexed l (k + 1) (o ++ [16 * x + y]) := by
 have hx := half_lt h1
 have hy := half_lt h2
 refine ⟨?_, by rw [List.length_append, h.2.1]; rfl, fun c hc => ?_⟩
 ·rw [h.1, drop2 hk, hexL_step h1 h2, Option.map_map]
  congr 1
  funext r
  simp
 ·rcases List.mem_append.1 hc with hc | hc
  ·exact h.2.2 c hc
  ·simp at hc; omega
theorem Hexed.bad {l : List Nat} {k : Nat} {o : List Nat} (h : Hexed l k o) (hk : 2 * k + 1 < l.length) (h1 : half (l.getD (2 * k) 0) = none \/ half (l.getD (2 * k + 1) 0) = none) : hexL l = none := by
 rw [h.1, drop2 hk, hexL_bad h1]; rfl
theorem halfI_cases (c : Nat) : (half c = none /\ halfI c = -1) \/ ∃ x, half c = some x /\ halfI c = (x : Int) /\ x < 16 := by
 cases h : half c with
 | none => left; unfold halfI; rw [h]; exact ⟨rfl, rfl⟩
 | some x => right; refine ⟨x, rfl, ?_, half_lt h⟩; unfold halfI; rw [h]
end Lx
def u8a : List UInt8 := [97, 98, 99, 100, 101, 102]
def u8b : List UInt8 := [48, 49, 50, 51, 52, 53, 54, 55, 56, 57, 65, 66, 67, 68, 69, 70]
theorem half_tab (c : Nat) (hc : c < 256) : (if Lib.indexByte u8a (Int.toNat (c : Int)).toUInt8 < 0 then Lib.indexByte u8b (Int.toNat (c : Int)).toUInt8 else 10 + Lib.indexByte u8a (Int.toNat (c : Int)).toUInt8) = Lx.halfI c /\ -1 <= Lib.indexByte u8a (Int.toNat (c : Int)).toUInt8 /\ Lib.indexByte u8a (Int.toNat (c : Int)).toUInt8 <= 5 := by
 have h : ∀ n : Fin 256, (if Lib.indexByte u8a (Int.toNat (n.val : Int)).toUInt8 < 0 then Lib.indexByte u8b (Int.toNat (n.val : Int)).toUInt8 else 10 + Lib.indexByte u8a (Int.toNat (n.val : Int)).toUInt8) = Lx.halfI n.val /\ -1 <= Lib.indexByte u8a (Int.toNat (n.val : Int)).toUInt8 /\ Lib.indexByte u8a (Int.toNat (n.val : Int)).toUInt8 <= 5 := by decide +kernel
 exact h ⟨c, hc⟩
theorem xhalf_is (c : Nat) (hc : c < 256) (w : World) : Calls Tryz.prog 255 #[.int .u8 (c : Int)] w fun e w' => e = .returned (.int .i64 (Lx.halfI c)) /\ w' = w := by
 have ht := half_tab c hc
 obtain ⟨i, hi⟩ : ∃ i, Lib.indexByte u8a (Int.toNat (c : Int)).toUInt8 = i := ⟨_, rfl⟩
 obtain ⟨j, hj⟩ : ∃ j, Lib.indexByte u8b (Int.toNat (c : Int)).toUInt8 = j := ⟨_, rfl⟩
 rw [hi, hj] at ht
 obtain ⟨ht, h1, h2⟩ := ht
 have CA : Hid (∀ w, Calls Tryz.prog 210 #[.string ⟨#[97, 98, 99, 100, 101, 102]⟩, .int .u8 (c : Int)] w fun e w' => e = .returned (.int .i64 i) /\ w' = w) := Lib.hid (fun w => by rw [<- hi]; exact Tryz.strings_IndexByte _ _ w)
 have CB : Hid (∀ w, Calls Tryz.prog 210 #[.string ⟨#[48, 49, 50, 51, 52, 53, 54, 55, 56, 57, 65, 66, 67, 68, 69, 70]⟩, .int .u8 (c : Int)] w fun e w' => e = .returned (.int .i64 j) /\ w' = w) := Lib.hid (fun w => by rw [<- hj]; exact Tryz.strings_IndexByte _ _ w)
 have HT := Lib.hid ht
 have tok1 : True := trivial
 clear hi hj ht hc
 by_cases h0 : i < 0
 ·have HV : Hid (j = Lx.halfI c) := Lib.hid (by rw [<- HT.out, if_pos h0])
  go_enter Tryz.func255, Tryz.ntmps255
  go_wp2_with (first
   | (go_at_call 210; have _t := tok1; refine (CA.out _).mono ?_; rintro e w1 ⟨rfl, rfl⟩; clear tok1 _t)
   | (go_at_call 210; refine (CB.out _).mono ?_; rintro e w1 ⟨rfl, rfl⟩))
  go_ret
  exact ⟨by rw [HV.out]; rfl, rfl⟩
 ·have HV : Hid (10 + i = Lx.halfI c) := Lib.hid (by rw [<- HT.out, if_neg h0])
  go_enter Tryz.func255, Tryz.ntmps255
  go_wp2_with (go_at_call 210; have _t := tok1; refine (CA.out _).mono ?_; rintro e w1 ⟨rfl, rfl⟩; clear tok1 _t)
  go_ret
  exact ⟨by rw [HV.out]; rfl, rfl⟩
theorem or_hex (x y : Nat) (hx : x < 16) (hy : y < 16) : bits BinOp.or IntKind.i64 ((x : Int) * 16) (y : Int) % 256 = ((16 * x + y : Nat) : Int) := by
 have h : ∀ x y : Fin 16, bits BinOp.or IntKind.i64 ((x.val : Int) * 16) (y.val : Int) % 256 = ((16 * x.val + y.val : Nat) : Int) := by decide +kernel
 exact h ⟨x, hx⟩ ⟨y, hy⟩
def vz : Array Value := (Lx.zero.list ++ [nilL]).toArray
theorem zero_val : (Tryz.prog.info? 29).bind (·.zero) = some (.agg vz) := by kernel_rfl
theorem xhexr_is (s : ByteArray) (hs : s.size <= 1000) (w : World) : Calls Tryz.prog 254 #[.agg #[], .string s] w fun e w' => e = .returned (.tuple #[(Lx.hexV (bts s)).1.val nilL, .int .i64 (Lx.hexV (bts s)).2]) /\ Below w.heap.size w w' := by
 obtain ⟨n, hn⟩ : ∃ n, s.size = 2 * n \/ s.size = 2 * n + 1 := ⟨s.size / 2, by omega⟩
 rcases hn with hn | hn
 ·have hm : Int.tmod (s.size : Int) 2 = 0 := by rw [Int.tmod_eq_emod_of_nonneg (by omega)]; omega
  have HN := Lib.hid hn
  clear hn
  go_enter Tryz.func254, Tryz.ntmps254
  go_wp2_with (first
   | (refine wl_boxA rfl _ rfl rfl (fun W1 b1 hb => ?_); have hB1 := hb; clear hb)
   | (refine wl_allocA rfl zero_val rfl (fun W2 b2 hb => ?_); have hB := below_step hB1 hb; clear hb))
  have hlt2 := b2.lt
  have hw2 := hB.size
  have hbl0 : Lib.IsBuilder 99 5 W2.heap.size W2.heap.size (u8s []) (W2.alloc (.cells #[.pointer none, .slice none 0 0] 99)) :=
   .inl ⟨Nat.le_refl _, _, World.alloc_heap_new W2 _, ⟨rfl, .inl ⟨rfl, rfl⟩⟩, by simp [Value.ownBlock]⟩
  have hbb0 : Below w.heap.size w (W2.alloc (.cells #[.pointer none, .slice none 0 0] 99)) := hB.alloc hB.size _
  have hbv0 := b2.old (.cells #[.pointer none, .slice none 0 0] 99)
  have hsz0 : W2.heap.size <= (W2.alloc (.cells #[.pointer none, .slice none 0 0] 99)).heap.size := by simp
  go_loopw [7] (fun i wr => ∃ (k : Nat) (o : List Nat), 2 * k <= s.size /\ i = .int .i64 ((2 * k : Nat) : Int) /\ Hid (Lx.Hexed (bts s) k o) /\ o.length <= 1000 /\ Lib.IsBuilder 99 5 W2.heap.size W2.heap.size (u8s o) wr /\ Blk wr W1.heap.size 29 vz /\ W2.heap.size <= wr.heap.size /\ Below w.heap.size w wr) (fun i _ => s.size - (intOf i).toNat)
  case atStart => exact ⟨0, [], Nat.zero_le _, rfl, Lib.hid (Lx.Hexed.start _), by simp, hbl0, hbv0, hsz0, hbb0⟩
  case round =>
   clear hbl0 hbb0 hbv0 hsz0 b1 b2 hB
   obtain ⟨k, o, hk, rfl, hx, hol, hbl, b2, hsz, hB⟩ := hrel
   by_cases hlt : 2 * k < s.size
   ·have hlt1 : 2 * k + 1 < s.size := by have := HN.out; omega
    obtain ⟨i, hi⟩ : ∃ i, 2 * k = i := ⟨_, rfl⟩
    rw [hi] at hk hlt hlt1 ⊢
    obtain ⟨c, hc⟩ : ∃ c, (s[i]'hlt).toNat = c := ⟨_, rfl⟩
    obtain ⟨d, hd⟩ : ∃ d, (s[i + 1]'hlt1).toNat = d := ⟨_, rfl⟩
    have hc2 : c < 256 := by rw [<- hc]; exact (s[i]'hlt).toNat_lt
    have hd2 : d < 256 := by rw [<- hd]; exact (s[i + 1]'hlt1).toNat_lt
    have HC : Hid ((bts s).getD i 0 = c) := Lib.hid (by rw [<- hc, byte_eq hlt]; rfl)
    have HD : Hid ((bts s).getD (i + 1) 0 = d) := Lib.hid (by rw [<- hd, byte_eq hlt1]; rfl)
    have CA := Lib.hid (xhalf_is c hc2)
    have CB := Lib.hid (xhalf_is d hd2)
    obtain ⟨x, hxe⟩ : ∃ x, Lx.halfI c = x := ⟨_, rfl⟩
    obtain ⟨y, hye⟩ : ∃ y, Lx.halfI d = y := ⟨_, rfl⟩
    have WX := Lib.hid (Lx.halfI_cases c)
    have WY := Lib.hid (Lx.halfI_cases d)
    rw [hxe] at CA WX
    rw [hye] at CB WY
    have HI := Lib.hid hi
    have k1 : IntKind.i64.wrap ((i : Int) + 1) = (i : Int) + 1 := IntWalk.i64_in _ (by omega)
    have k2 : (0 : Int) <= (i : Int) + 1 := by omega
    have k3 : ((i : Int) + 1).toNat = i + 1 := by omega
    clear hxe hye hi
    go_wp2
    go_quiet (first | with_reducible exact Calls.quiet_of_same (CA.out _) | with_reducible exact Calls.quiet_of_same (CB.out _) | ((trace_state; fail)))
    clear k1 k2 k3
    rcases WX.out with ⟨hx1, rfl⟩ | ⟨xn, hx1, rfl, hx2⟩
    ·have HL : Hid (Lx.hexL (bts s) = none) := Lib.hid (hx.out.bad (by rw [HI.out, bts_length]; omega) (.inl (by rw [HI.out, HC.out]; exact hx1)))
     clear hx1
     go_wp2_with (refine wl_storeA (b2.drewN _) rfl _ _ rfl rfl rfl (by kernel_rfl) rfl rfl rfl (fun W8 b8 hg => ?_); have hB8 := below_far (below_drewN hB _) (below_drewN hB _).size hB1.size hg; clear hg)
     exact bodyPost_ret (res_cell_tmp rfl b8 (by kernel_rfl) rfl rfl) rfl ⟨by unfold Lx.hexV; rw [HL.out]; rfl, hB8⟩
    ·rcases WY.out with ⟨hy1, rfl⟩ | ⟨yn, hy1, rfl, hy2⟩
     ·have HL : Hid (Lx.hexL (bts s) = none) := Lib.hid (hx.out.bad (by rw [HI.out, bts_length]; omega) (.inr (by rw [HI.out, HD.out]; exact hy1)))
      clear hx1 hy1
      go_wp2_with (refine wl_storeA (b2.drewN _) rfl _ _ rfl rfl rfl (by kernel_rfl) rfl rfl rfl (fun W8 b8 hg => ?_); have hB8 := below_far (below_drewN hB _) (below_drewN hB _).size hB1.size hg; clear hg)
      exact bodyPost_ret (res_cell_tmp rfl b8 (by kernel_rfl) rfl rfl) rfl ⟨by unfold Lx.hexV; rw [HL.out]; rfl, hB8⟩
     ·have HX : Hid (Lx.Hexed (bts s) (k + 1) (o ++ [16 * xn + yn])) := Lib.hid (hx.out.next (by rw [HI.out, bts_length]; omega) (by rw [HI.out, HC.out]; exact hx1) (by rw [HI.out, HD.out]; exact hy1))
      clear hx1 hy1
      go_wp2_with (go_at_call 67; refine (writeByte_any W2.heap.size W2.heap.size _ _ _ (builder_below hbl (below_drewN (Below.refl _ wr) _)) (by rw [u8s_length]; omega) (by simpa using hsz)).mono ?_; rintro e w1 ⟨rfl, hbl1, hb1⟩)
      have HE := Lib.hid (or_hex xn yn hx2 hy2)
      go_roundw
      case rel => exact ⟨k + 1, o ++ [16 * xn + yn], by have := HI.out; omega, by have := HI.out; congr 1; omega, HX, by have := HX.out.2.1; have := HI.out; omega, by rw [HE.out] at hbl1; rw [u8s_append]; exact .inr hbl1, (hb1.block _ hlt2).trans (b2.drewN _), Nat.le_trans hsz (Nat.le_trans (below_drewN (Below.refl 0 wr) _).size hb1.size), (below_drewN hB _).trans (hb1.mono hw2)⟩
      case measure => simp [intOf]; omega
   ·have HO : Hid (Lx.hexL (bts s) = some o) := Lib.hid (hx.out.done (by rw [bts_length]; omega))
    have hb256 := hx.out.2.2
    have hbl' : Lib.IsBuilder 99 5 W2.heap.size W2.heap.size (Lib.byteCells (o.map UInt8.ofNat)) wr := by rw [byteCells_u8 _ hb256]; exact hbl
    clear hbl hx hb256
    go_wp2_with (first
     | (go_at_call 68; refine (Tryz.Builder_String_any W2.heap.size W2.heap.size _ _ hbl' hsz).mono ?_; rintro e w3 ⟨rfl, hb⟩; replace hB := hB.trans (hb.mono hw2); replace b2 := (hb.block _ hlt2).trans b2; clear hb)
     | (refine wl_storeA b2 rfl _ _ rfl rfl rfl (by kernel_rfl) rfl rfl rfl (fun W8 b8 hg => ?_); have hB8 := below_far hB hB.size hB1.size hg; clear hg))
    exact bodyPost_ret (res_cell_tmp rfl b8 (by kernel_rfl) rfl rfl) rfl ⟨by unfold Lx.hexV; rw [HO.out]; rfl, hB8⟩
 ·have hm : Int.tmod (s.size : Int) 2 = 1 := by rw [Int.tmod_eq_emod_of_nonneg (by omega)]; omega
  have HR : Hid (Lx.hexL (bts s) = none) := Lib.hid (Lx.hexL_odd n _ (by rw [bts_length]; exact hn))
  clear hn
  go_enter Tryz.func254, Tryz.ntmps254
  go_wp2_with (first
   | (refine wl_boxA rfl _ rfl rfl (fun W1 b1 hb => ?_); have hB1 := hb; clear hb)
   | (refine wl_allocA rfl zero_val rfl (fun W2 b2 hb => ?_); have hB := below_step hB1 hb; clear hb)
   | (refine wl_storeA b2 rfl _ _ rfl rfl rfl (by kernel_rfl) rfl rfl rfl (fun W8 b8 hg => ?_); have hB8 := below_far hB hB.size hB1.size hg; clear hg))
  exact bodyPost_ret (res_cell_tmp rfl b8 (by kernel_rfl) rfl rfl) rfl ⟨by unfold Lx.hexV; rw [HR.out]; rfl, hB8⟩
end Go.Proofs.YthoojcdjjecogaaGreatDoor
namespace Go.Proofs.YthoojcdjjecogaaGreatDoor
open Go Go.RowKit

def BdR (R b : Nat) (bs : List Value) (w : World) : Prop := b < R /\ R <= w.heap.size /\ ∃ p v, (p = .pointer none \/ p = .pointer (some ⟨b, 0, none⟩)) /\ w.heap[b]? = some (.cells #[p, v] 99 (0, 0)) /\ w.ownsRow R 5 1 v bs.length bs
structure Far (R b : Nat) (w w' : World) : Prop where
 os : w'.os = w.os
 tape : w'.tape = w.tape
 output : w'.output = w.output
 size : w.heap.size <= w'.heap.size
 block : ∀ k, k < R -> k ≠ b -> w'.heap[k]? = w.heap[k]?
theorem Far.below {R b B : Nat} {w w' : World} (h : Far R b w w') (h1 : B <= R) (h2 : B <= b) : Below B w w' := ⟨h.os, h.tape, h.output, h.size, fun k hk => h.block k (by omega) (by omega)⟩
theorem own_low {w : World} {R S : Nat} {e : TypeId} {v : Value} {n : Nat} {xs : List Value} (h : w.ownsRow R e 1 v n xs) (hS : S <= R) : w.ownsRow S e 1 v n xs :=
 ⟨h.1, h.2.imp id fun ⟨g, cap, cur, h1, h2, h3⟩ => ⟨g, cap, cur, h1, Nat.le_trans hS h2, h3⟩⟩
theorem own_not {w : World} {R b : Nat} {e : TypeId} {v : Value} {n : Nat} {xs : List Value} (h : w.ownsRow R e 1 v n xs) (hb : b < R) : v.ownBlock ≠ some b := by
 rcases h.2 with ⟨rfl, _⟩ | ⟨g, cap, cur, rfl, h1, _⟩
 ·simp [Value.ownBlock]
 ·simp [Value.ownBlock]; omega
theorem BdR.is {R b B : Nat} {bs : List Value} {w : World} (h : BdR R b bs w) (hB : B <= b) : Lib.IsBuilder 99 5 B b bs w := by
 obtain ⟨hb, _, p, v, hp, hh, hown⟩ := h
 have h2 := own_low hown (show B <= R by omega)
 have hne := own_not hown hb
 rcases hp with rfl | rfl
 ·exact .inl ⟨hB, v, hh, h2, hne⟩
 ·exact .inr ⟨hB, v, hh, h2, hne⟩
theorem BdR.keep {R b : Nat} {bs : List Value} {w w' : World} (h : BdR R b bs w) (hb : Below w.heap.size w w') : BdR R b bs w' := by
 obtain ⟨h1, h2, p, v, hp, hh, hown⟩ := h
 exact ⟨h1, Nat.le_trans h2 hb.size, p, v, hp, (hb.block b (by omega)).trans hh, own_below hown hb⟩
theorem writeByte_far (R b : Nat) (bs : List Value) (c : Int) (w : World) (h : BdR R b bs w) (hlen : bs.length + 1 <= 140737488355328) :
  Calls Tryz.prog 67 #[.pointer (some ⟨b, 0, none⟩), .int .u8 c] w fun e w' => e = .returned .nilIface /\ BdR R b (bs ++ [.int .u8 c]) w' /\ Far R b w w' := by
 obtain ⟨i0, hi, hz0, hz1, hz2⟩ := info_parts Tryz.info5
 have hB := h.is (Nat.le_refl b)
 obtain ⟨hbR, hRw, p, v, hp, hh, hown⟩ := h
 have hne := own_not hown hbR
 go_enter Tryz.func67, Tryz.ntmps67
 have hcopy : Calls Tryz.prog 104 #[.pointer (some ⟨b, 0, none⟩)] w fun e w' => e = .returned (.tuple #[]) /\ w'.heap[b]? = some (.cells #[.pointer (some ⟨b, 0, none⟩), v] 99 (0, 0)) /\ w'.ownsRow R 5 1 v bs.length bs /\ Far R b w w' /\ w'.heap.size = w.heap.size := by
  rcases hp with rfl | rfl
  ·have hat : Lib.BuilderAt 99 5 b b (.pointer none) bs w := ⟨Nat.le_refl _, v, hh, own_low hown (by omega), hne⟩
   refine (copy_fresh b w hat.cell0 hat.shape hat.frozen0).mono ?_
   rintro e w' ⟨rfl, rfl⟩
   refine ⟨rfl, by simp [World.setCell, Array.getElem?_modify, hh], hown.kept (row := some b) ⟨rfl, rfl, rfl, by simp [World.setCell], fun k _ hk => Below.heap_setCell _ _ _ _ (fun e => hk (by simp [e]))⟩ (.inr hne), ⟨rfl, rfl, rfl, by simp [World.setCell], fun k _ hk => Below.heap_setCell _ _ _ _ hk⟩, by simp [World.setCell]⟩
  ·refine (copy_used b w (by simp [World.cell?, hh])).mono ?_
   rintro e w' ⟨rfl, rfl⟩
   exact ⟨rfl, hh, hown, ⟨rfl, rfl, rfl, Nat.le_refl _, fun _ _ _ => rfl⟩, rfl⟩
 clear hh hown hB
 go_wp2_with (go_at_call 104; refine hcopy.mono ?_)
 rintro e w1 ⟨rfl, hbk, hown, hf1, hsz1⟩
 have c0 : w1.cell? ⟨b, 0, none⟩ = some (.pointer (some ⟨b, 0, none⟩)) := by rw [Lib.cell_of_heap hbk]; rfl
 have c1 : w1.cell? ⟨b, 1, none⟩ = some v := by rw [Lib.cell_of_heap hbk]; rfl
 have hR1 : R <= w1.heap.size := by omega
 clear hsz1
 go_wp2_with (at_builtin; refine wpList_append_own _ rfl _ _ 79 rfl R 5 i0 (.int .u8 0) 1 1 Tryz.underlying79 hi hz0 hz1 hz2 rfl (by decide) _ _ _ rfl (hown.alloc _) ⟨w1.heap.size, 0, none⟩ 1 1 [.int .u8 c] rfl rfl ?c1 ?c2 ?c3 ?c4 ?c5 ?_)
 case c1 =>
  intro j u hj
  match j, hj with
  | 0, hj => simp at hj; subst hj; simp [Addr.add]
 case c2 => intro u hu; simp at hu; subst hu; rfl
 case c3 => unfold maxLen; omega
 case c4 => omega
 case c5 => simp; omega
 intro v' w2 hown' hgrow _
 have hlt : b < w1.heap.size := (Array.getElem?_eq_some_iff.1 hbk).1
 have hb2 : w2.heap[b]? = some (.cells #[.pointer (some ⟨b, 0, none⟩), v] 99 (0, 0)) := by
  rw [hgrow.block b (by simp; omega) (fun e => hne e.symm), Lib.alloc_old w1 _ b hlt]
  exact hbk
 have d0 : w2.cell? ⟨b, 0, none⟩ = some (.pointer (some ⟨b, 0, none⟩)) := by rw [Lib.cell_of_heap hb2]; rfl
 have d1 : w2.cell? ⟨b, 1, none⟩ = some v := by rw [Lib.cell_of_heap hb2]; rfl
 have f1 : w2.frozen? ⟨b, 1, none⟩ = false := Lib.frozen_of_heap hb2 1
 obtain ⟨g, cap, rfl⟩ : ∃ g cap, v' = .slice (some ⟨g, 0, none⟩) (bs.length + 1) cap := by
  rcases hown'.2 with ⟨_, h0⟩ | ⟨g, cap, cur, hv, _⟩
  ·omega
  ·exact ⟨g, cap, hv⟩
 go_wp2
 go_ret
 have hne' := own_not hown' hbR
 have hsz : w1.heap.size <= w2.heap.size := by have := hgrow.size; simp at this; omega
 have hfar : Far R b w w2 := ⟨hgrow.os.trans hf1.os, hgrow.tape.trans hf1.tape, hgrow.output.trans hf1.output, Nat.le_trans hf1.size hsz, fun k hk hkb => by
  rw [hgrow.block k (by simp; omega) (fun e => own_not hown hk e.symm), Lib.alloc_old w1 _ k (by omega)]
  exact hf1.block k hk hkb⟩
 refine ⟨rfl, ⟨hbR, by simp [World.setCell]; omega, .pointer (some ⟨b, 0, none⟩), .slice (some ⟨g, 0, none⟩) (bs.length + 1) cap, .inr rfl, by simp [World.setCell, Array.getElem?_modify, hb2], ?_⟩, ⟨hfar.os, hfar.tape, hfar.output, by simp [World.setCell]; exact hfar.size, fun k hk hkb => (Below.heap_setCell _ _ _ _ hkb).trans (hfar.block k hk hkb)⟩⟩
 have hl : (bs ++ [Value.int .u8 c]).length = bs.length + 1 := by simp
 rw [hl]
 exact hown'.kept (row := some b) ⟨rfl, rfl, rfl, by simp [World.setCell], fun k _ hk => Below.heap_setCell _ _ _ _ (fun e => hk (by simp [e]))⟩ (.inr hne')
namespace Lx
def dg (n : Nat) : Nat := if n < 10 then 48 + n else 55 + n
def hexT (l : List Nat) : List Nat := l.flatMap fun c => [dg (c / 16), dg (c % 16)]
theorem hexT_succ {l : List Nat} {k : Nat} (h : k < l.length) : hexT (l.take (k + 1)) = hexT (l.take k) ++ [dg (l[k] / 16)] ++ [dg (l[k] % 16)] := by
 unfold hexT
 rw [List.take_succ_eq_append_getElem h, List.flatMap_append]
 simp
theorem hexT_length (l : List Nat) : (hexT l).length = 2 * l.length := by
 induction l with
 | nil => rfl
 | cons a l ih => simp only [hexT, List.flatMap_cons, List.length_append, List.length_cons, List.length_nil] at ih ⊢; omega
theorem hexT_lt {l : List Nat} (h : ∀ c ∈ l, c < 256) : ∀ c ∈ hexT l, c < 256 := by
 intro c hc
 unfold hexT at hc
 obtain ⟨d, hd, hc⟩ := List.mem_flatMap.1 hc
 have := h d hd
 simp only [List.mem_cons, List.not_mem_nil, or_false] at hc
 unfold dg at hc
 rcases hc with rfl | rfl <;> split <;> omega
end Lx
theorem dg_at (n : Nat) (h : n < (⟨#[48, 49, 50, 51, 52, 53, 54, 55, 56, 57, 65, 66, 67, 68, 69, 70]⟩ : ByteArray).size) : ((⟨#[48, 49, 50, 51, 52, 53, 54, 55, 56, 57, 65, 66, 67, 68, 69, 70]⟩ : ByteArray)[n]'h).toNat = Lx.dg n := by
 have hn : n < 16 := h
 have key : ∀ n : Fin 16, ((⟨#[48, 49, 50, 51, 52, 53, 54, 55, 56, 57, 65, 66, 67, 68, 69, 70]⟩ : ByteArray)[n.val]'(n.isLt)).toNat = Lx.dg n.val := by decide +kernel
 exact key ⟨n, hn⟩
theorem Row8.heap {W W' : World} {B cap : Nat} {l : List Nat} (h : Row8 W B cap l) (hb : W'.heap[B]? = W.heap[B]?) : Row8 W' B cap l := by
 obtain ⟨cur, h1, h2⟩ := h
 exact ⟨cur, hb.trans h1, h2⟩
theorem xtext5_is (t : ByteArray) (ht : t.size <= 100000) (b n : Bool) (s : ByteArray) (S : Int) (m : Mo) (l : Value) (w : World) : Calls Tryz.prog 31 #[(⟨5, t, b, n, s, S, m⟩ : Vl).val l] w fun e w' => e = .returned (.string (str (Lx.hexT (bts t)))) /\ Below w.heap.size w w' := by
 obtain ⟨cs, hcs⟩ : ∃ cs, ((⟨5, t, b, n, s, S, m⟩ : Vl).list ++ [l]).toArray = cs := ⟨_, rfl⟩
 have hc0 : cs[0]? = some (.int .i64 5) := by rw [<- hcs]; rfl
 have hc1 : cs[1]? = some (.string t) := by rw [<- hcs]; rfl
 unfold Vl.val
 rw [hcs]
 clear hcs
 go_enter Tryz.func31, Tryz.ntmps31
 go_upto_region 14 with (first
  | (refine wl_boxA rfl _ rfl rfl (fun W1 b1 hb => ?_); have hB1 := hb; clear hb)
  | (refine wl_loadC b1 rfl (by kernel_rfl) _ rfl (j := 0) (v := .int .i64 5) rfl hc0 ?_))
 obtain ⟨cap, w3, hcv, hrow, hb3⟩ := bytes_row (W1.alloc (.cells #[.pointer none, .slice none 0 0] 99)) t
 have b2 := b1.old (.cells #[.pointer none, .slice none 0 0] 99)
 go_wp2_with (refine wl_loadC b2 rfl (by kernel_rfl) _ rfl (j := 1) (v := .string t) rfl hc1 ?_)
 have hg2 : (W1.alloc (.cells #[.pointer none, .slice none 0 0] 99)).heap.size = W1.heap.size + 1 := by simp
 have hb0 : W1.heap.size < W1.heap.size + 1 + 1 := by omega
 have hR3 : W1.heap.size + 1 + 1 <= w3.heap.size := by have := hrow.lt; rw [hg2] at this; omega
 have hbd0 : BdR (W1.heap.size + 1 + 1) W1.heap.size (u8s []) w3 := ⟨hb0, hR3, _, _, .inl rfl, (hb3.block _ (by rw [hg2]; omega)).trans (World.alloc_heap_new W1 _), ⟨rfl, .inl ⟨rfl, rfl⟩⟩⟩
 have hB3 : Below w.heap.size w w3 := below_step (hB1.alloc hB1.size _) hb3
 have hw1 := hB1.size
 rw [hg2] at hrow hcv
 clear hb3 b1 b2 hB1 hc0 hc1
 go_loopw [43] (fun i wr => ∃ k : Nat, k <= t.size /\ i = .int .i64 (k : Int) /\ BdR (W1.heap.size + 1 + 1) W1.heap.size (u8s (Lx.hexT ((bts t).take k))) wr /\ Row8 wr (W1.heap.size + 1) cap (bts t) /\ Below w.heap.size w wr) (fun i _ => t.size - (intOf i).toNat)
 case atStart => exact ⟨0, Nat.zero_le _, rfl, hbd0, hrow, hB3⟩
 case round =>
  clear hbd0 hrow hB3 hcv
  obtain ⟨k, hk, rfl, hbd, hr, hB⟩ := hrel
  by_cases hlt : k < t.size
  ·have hlb : k < (bts t).length := by rw [bts_length]; exact hlt
   obtain ⟨c, hc⟩ : ∃ c, (bts t)[k]'hlb = c := ⟨_, rfl⟩
   have hc256 : c < 256 := by rw [<- hc]; exact bts_lt t _ (List.getElem_mem _)
   have hcell := hr.at (j := k) hlb
   rw [List.getD_eq_getElem?_getD, List.getElem?_eq_getElem hlb, Option.getD_some, hc] at hcell
   have HS := Lib.hid (Lx.hexT_succ hlb)
   rw [hc] at HS
   have hll := Lib.hid (Lx.hexT_length ((bts t).take k))
   have hll2 : (u8s (Lx.hexT ((bts t).take k))).length <= 200000 := by rw [u8s_length, hll.out, List.length_take]; omega
   have tok1 : True := trivial
   clear hc
   go_wp2_with (first
    | (go_at_call 67; have _t := tok1; refine (writeByte_far _ _ _ _ _ hbd (by omega)).mono ?_; rintro e w5 ⟨rfl, hbd1, hf1⟩; clear tok1 _t)
    | (go_at_call 67; refine (writeByte_far _ _ _ _ _ hbd1 (by rw [List.length_append]; simp only [List.length_cons, List.length_nil]; omega)).mono ?_; rintro e w6 ⟨rfl, hbd2, hf2⟩))
   simp only [dg_at] at hbd2
   go_roundw
   case rel => exact ⟨k + 1, by omega, by simp, by rw [HS.out, u8s_append, u8s_append]; exact hbd2, hr.heap ((hf2.block _ (by omega) (by omega)).trans (hf1.block _ (by omega) (by omega))), hB.trans ((hf1.below (by omega) hw1).trans (hf2.below (by omega) hw1))⟩
   case measure => simp [intOf]; omega
  ·have hall : (bts t).take k = bts t := List.take_of_length_le (by rw [bts_length]; omega)
   rw [hall] at hbd
   have h256 := Lx.hexT_lt (bts_lt t)
   have hbl : Lib.IsBuilder 99 5 W1.heap.size W1.heap.size (Lib.byteCells ((Lx.hexT (bts t)).map UInt8.ofNat)) wr := by rw [byteCells_u8 _ h256]; exact hbd.is (Nat.le_refl _)
   have hsz : W1.heap.size <= wr.heap.size := by have := hbd.2.1; omega
   clear hall h256 hbd
   go_wp2_with (go_at_call 68; refine (Tryz.Builder_String_any W1.heap.size W1.heap.size _ _ hbl hsz).mono ?_; rintro e w7 ⟨rfl, hb7⟩)
   go_ret
   go_light
   exact ⟨rfl, hB.trans (hb7.mono hw1)⟩
end Go.Proofs.YthoojcdjjecogaaGreatDoor
namespace Go.Proofs.YthoojcdjjecogaaGreatDoor
open Go Go.RowKit Go.Ex
namespace Lx
def kindB (v : Vl) (n : Nat) (lc : Bool) : Bool := if v.k = 1 then decide (wrongI v.t = -1) else if v.k = 2 \/ v.k = 5 then true else if v.k = 3 then okB v.n v.s v.S else if v.k = 4 then Mo.okB v.m else if v.k = 6 then decide (n <= 300) && !lc else false
def okV (v : Vl) (n : Nat) (lc : Bool) : Bool := kindB v n lc && (bareB v && (decide (v.k = 6) || decide (n = 0)))
end Lx
structure Vl.Sz (v : Vl) : Prop where
 t : v.t.size <= 100000
 s : v.s.size <= 1000000
 m : v.m.s.size <= 1000000
theorem vE_one (v : Vl) (l : Value) (n : Nat) (h : SliceN l n) (r : List Value) (hr : r.all Value.oneCell' = true) : (vE v l ++ r).all Value.oneCell' = true := by
 obtain ⟨a, c, rfl⟩ := h
 rw [List.all_append, hr]
 rfl
theorem vE_at (v : Vl) (l : Value) (M : Int) (r : List Value) : ∀ i, i < 18 -> envE (.int .i64 M :: (vE v l ++ r)) (1 + i) = (vE v l).getD i (.bool false) := by
 intro i hi
 show (Value.int .i64 M :: (vE v l ++ r)).getD (1 + i) _ = _
 rw [Nat.add_comm, List.getD_cons_succ, List.getD_eq_getElem?_getD, List.getD_eq_getElem?_getD, List.getElem?_append_left (by simp [vE, Vl.list, Mo.list]; omega)]
theorem isSl_ok {E : Nat -> Value} {l : Value} {n i : Nat} (h : SliceN l n) (hE : E i = l) : X.evB E (.isSl i) = true := by
 obtain ⟨a, c, rfl⟩ := h
 simp only [X.evB, hE]
theorem slen_ok {E : Nat -> Value} {l : Value} {n i : Nat} (h : SliceN l n) (hE : E i = l) : X.evI E (.slen i) = (n : Int) := by
 obtain ⟨a, c, rfl⟩ := h
 simp only [X.evI, hE]
theorem tree_av {calls : List CallX} {env : List Value} {n : Nat} {f : FuncId} {args : List V} {F : Fx} {t : Tree} {av : Array Value} {v : Value} {w : World} (hr : chk (runTr Tryz.prog nG (fun _ => none) (fun _ => true) moT calls n f args hN) t F = true) (hc : AllX Tryz.prog (envE (.int .i64 0 :: env)) (fun _ => True) calls) (hone : env.all Value.oneCell' = true) (hF : F.Ok (envE (.int .i64 0 :: env)))
  (hargs : V.oks nG args = true) (hav : (V.dens L0 (envE (.int .i64 0 :: env)) args).toArray = av) (hv : (t.at (envE (.int .i64 0 :: env))).den L0 (envE (.int .i64 0 :: env)) = v) : Calls Tryz.prog f av w fun e w' => e = .returned v /\ Below w.heap.size w w' := by
 rw [<- hv, <- hav]
 exact tree_law (envE_one (by rw [List.all_cons, hone]; rfl)) (by kernel_rfl) noExt hF moT_ok hc (fun _ _ _ _ _ => trivial) hr (start_none _ _) hargs
def barV (v : Vl) (n : Nat) : Bool := Lx.bareB v && (decide (v.k = 6) || decide (n = 0))
theorem xbare_is (v : Vl) (l : Value) (n : Nat) (hl : SliceN l n) (w : World) : Calls Tryz.prog 38 #[v.val l] w fun e w' => e = .returned (.bool (barV v n)) /\ Below w.heap.size w w' := by
 have hone := vE_one v l n hl [] rfl
 rw [List.append_nil] at hone
 have hat := vE_at v l 0 []
 rw [List.append_nil] at hat
 have fin : ∀ k, (v.k = k \/ (k = 0 /\ v.k ≠ 1 /\ v.k ≠ 2 /\ v.k ≠ 3 /\ v.k ≠ 4 /\ v.k ≠ 5 /\ v.k ≠ 6)) -> ((chT (bcK 1 k) yesT noT).at (envE (.int .i64 0 :: vE v l))).den L0 (envE (.int .i64 0 :: vE v l)) = .bool (barV v n) := fun k hk => by
  rw [chT_at, bcK_at v l n hl (envE (.int .i64 0 :: vE v l)) 1 hat k hk]
  unfold barV
  cases (Lx.bareB v && (decide (v.k = 6) || decide (n = 0))) <;> rfl
 have hs : X.evB (envE (.int .i64 0 :: vE v l)) (.isSl 18) = true := isSl_ok hl rfl
 have one : ∀ k, v.k = k -> k ∈ [(1 : Int), 2, 3, 4, 5, 6] -> Calls Tryz.prog 38 #[v.val l] w fun e w' => e = .returned (.bool (barV v n)) /\ Below w.heap.size w w' := fun k hk hm =>
  tree_av (env := vE v l) (run_bare k hm) trivial hone ⟨hs, trivial⟩ rfl (by rw [<- hk]; rfl) (fin k (.inl hk))
 by_cases h1 : v.k = 1
 ·exact one 1 h1 (by decide)
 by_cases h2 : v.k = 2
 ·exact one 2 h2 (by decide)
 by_cases h3 : v.k = 3
 ·exact one 3 h3 (by decide)
 by_cases h4 : v.k = 4
 ·exact one 4 h4 (by decide)
 by_cases h5 : v.k = 5
 ·exact one 5 h5 (by decide)
 by_cases h6 : v.k = 6
 ·exact one 6 h6 (by decide)
 exact tree_av (env := vE v l) run_bare0 trivial hone ⟨decide_eq_false h1, decide_eq_false h5, decide_eq_false h2, decide_eq_false h3, decide_eq_false h4, decide_eq_false h6, hs, trivial⟩ rfl rfl (fin 0 (.inr ⟨rfl, h1, h2, h3, h4, h5, h6⟩))
def decP (t : ByteArray) : Int := if wrongI t = -1 then 0 else wrongI t
def decI (t : ByteArray) : Int := if wrongI t = -1 then 0 else 6
theorem decI_zero (t : ByteArray) : decide (decI t = 0) = decide (wrongI t = -1) := by
 unfold decI
 by_cases h : wrongI t = -1
 ·rw [if_pos h, decide_eq_true h]; rfl
 ·rw [if_neg h, decide_eq_false h]; rfl
theorem dec_post {t : ByteArray} {e : Ending} {w w' : World} {Q : Value -> Prop} (h : ((∃ v, wrongI t = -1 /\ e = .returned (.tuple #[v, .int .i64 0, .int .i64 0]) /\ Q v) \/ (0 <= wrongI t /\ e = .returned (.tuple #[.slice none 0 0, .int .i64 (wrongI t), .int .i64 6]))) /\ Below w.heap.size w w') :
  (∃ v, e = .returned (.tuple #[v, .int .i64 (decP t), .int .i64 (decI t)])) /\ Below w.heap.size w w' := by
 obtain ⟨⟨v, h1, rfl, _⟩ | ⟨h1, rfl⟩, hb⟩ := h
 ·exact ⟨⟨v, by unfold decP decI; rw [if_pos h1, if_pos h1]⟩, hb⟩
 ·have hn : wrongI t ≠ -1 := by omega
  exact ⟨⟨_, by unfold decP decI; rw [if_neg hn, if_neg hn]⟩, hb⟩
theorem Vars.rng {M : Int} {w : World} (h : Vars M w) : Rng w := by
 obtain ⟨lo, hi, h0, _⟩ := h.row3
 exact ⟨_, _, h0⟩
theorem pdec_ok {E : Nat -> Value} {i p q : Nat} {t : ByteArray} {M : Int} (pre : Fx) (ht : Fx.Ok E pre -> t.size <= 1000000) (h1 : E i = .string t) (h2 : E p = .int .i64 (decP t)) (h3 : E q = .int .i64 (decI t)) : CallX.Ok Tryz.prog E (Vars M) ⟨24, [xs i], pre, .tup [.junk 0, xi p, xi q]⟩ := by
 refine ⟨rfl, fk, fun hp L w hV => ?_⟩
 have e1 : V.dens L E [xs i] = [.string t] := by simp only [V.dens, xs, V.den, X.evS, h1]
 show Calls _ _ (V.dens L E [xs i]).toArray w fun x w' => (∃ z : Nat -> Value, x = .returned ((V.tup [.junk 0, xi p, xi q]).den ⟨L.ρ, L.κ, z⟩ E)) /\ Below w.heap.size w w'
 rw [e1]
 refine (f24_any t (ht hp) w hV.rng).mono fun e w' h => ?_
 obtain ⟨⟨v, rfl⟩, hb⟩ := dec_post h
 refine ⟨⟨fun _ => v, ?_⟩, hb⟩
 simp only [V.den, V.dens, xi, X.evI, h2, h3]
theorem rdec_ok {E : Nat -> Value} {i p q : Nat} {t : ByteArray} {M : Int} (pre : Fx) (ht : Fx.Ok E pre -> t.size <= 1000000) (h1 : E i = .string t) (h2 : E p = .int .i64 (decP t)) (h3 : E q = .int .i64 (decI t)) : CallX.Ok Tryz.prog E (Vars M) ⟨26, [xs i], pre, .tup [.junk 0, xi p, xi q]⟩ := by
 refine ⟨rfl, fk, fun hp L w hV => ?_⟩
 have e1 : V.dens L E [xs i] = [.string t] := by simp only [V.dens, xs, V.den, X.evS, h1]
 show Calls _ _ (V.dens L E [xs i]).toArray w fun x w' => (∃ z : Nat -> Value, x = .returned ((V.tup [.junk 0, xi p, xi q]).den ⟨L.ρ, L.κ, z⟩ E)) /\ Below w.heap.size w w'
 rw [e1]
 refine (f25_any t (ht hp) w).mono fun e w' h => ?_
 obtain ⟨⟨v, rfl⟩, hb⟩ := dec_post h
 refine ⟨⟨fun _ => v, ?_⟩, hb⟩
 simp only [V.den, V.dens, xi, X.evI, h2, h3]
def ckY : Tree := .node (.at 24) (.leaf (it 0)) (.leaf (it 2))
def ckT : Tree := .node (.eq (.at 1) (.int 1)) (.node (.eq (.at 20) (.int 0)) ckY (.leaf (it 2))) (.node (.eq (.at 1) (.int 2)) ckY (.node (.eq (.at 1) (.int 5)) ckY (.node (.eq (.at 1) (.int 3)) (.node (.eq (.at 21) (.int 0)) ckY (.leaf (it 2)))
 (.node (.eq (.at 1) (.int 4)) (.node (.eq (.at 22) (.int 0)) ckY (.leaf (it 2))) (.node (.eq (.at 1) (.int 6)) (.node (.lt (.int 300) (.slen 18)) (.leaf (it 2)) (.node (.at 23) (.leaf (it 2)) ckY)) (.leaf (it 2)))))))
def ckX : List CallX := [⟨24, [xs 2], [], .tup [.junk 0, xi 19, xi 20]⟩, ⟨34, [deV 4], [], xi 21⟩, ⟨35, [moV 7], [], xi 22⟩, ⟨36, [.atom 18, .fn 37 []], [(.eq (.at 1) (.int 6), true), (.lt (.int 300) (.slen 18), false)], xb 23⟩, ⟨38, [vaV 1 (.atom 18)], [], xb 24⟩]
theorem run_check9 : chk (runTr Tryz.prog nG (fun _ => none) gd moT ckX 100 17 [vaV 1 (.atom 18)] h0) ckT [(.isSl 18, true)] = true := by decide +kernel
def ckE (v : Vl) (l : Value) (n : Nat) (lc : Bool) : List Value := vE v l ++ [.int .i64 (decP v.t), .int .i64 (decI v.t), .int .i64 (ckI v.n v.s v.S), .int .i64 (bif Mo.okB v.m then 0 else 2), .bool lc, .bool (barV v n)]
def ListOk (w0 : World) (M : Int) (v : Vl) (l : Value) (n : Nat) (lc : Bool) : Prop := v.k = 6 -> n <= 300 -> ∀ w, VK M w0 w -> Calls Tryz.prog 36 #[l, .func (.func 37) #[] #[]] w fun e w' => e = .returned (.bool lc) /\ Below w.heap.size w w'
theorem listOk_no {w0 : World} {M : Int} {v : Vl} {l : Value} {n : Nat} {lc : Bool} (h : v.k ≠ 6) : ListOk w0 M v l n lc := fun e => absurd e h
theorem ListOk.next {w0 w : World} {M : Int} {v : Vl} {l : Value} {n : Nat} {lc : Bool} (h : ListOk w0 M v l n lc) (hk : VK M w0 w) : ListOk w M v l n lc := fun h6 hn w' hw => h h6 hn w' ⟨hw.1, hk.2.trans hw.2⟩
theorem xcheck_is (v : Vl) (hv : v.Sz) (l : Value) (n : Nat) (hl : SliceN l n) (lc : Bool) (w : World) (M : Int) (hlc : ListOk w M v l n lc) (hV : Vars M w) : Calls Tryz.prog 17 #[v.val l] w fun e w' => e = .returned (.int .i64 (bif Lx.okV v n lc then 0 else 2)) /\ Below w.heap.size w w' := by
 have hsl : ∀ r, X.evB (envE (.int .i64 M :: (vE v l ++ r))) (.isSl 18) = true := fun r => isSl_ok hl rfl
 have hln : X.evI (envE (.int .i64 M :: ckE v l n lc)) (.slen 18) = (n : Int) := slen_ok hl rfl
 refine tree_rk (env := ckE v l n lc) run_check9 ⟨okX_vk (pdec_ok [] (fun _ => by have := hv.t; omega) rfl rfl rfl),
  ⟨rfl, fk, fun _ L w _ => pcheck_r v.n v.s v.S hv.s _ rfl w⟩,
  ⟨rfl, fk, fun _ L w hV => pcheckm_is v.m hv.m w M hV.1⟩,
  ⟨rfl, fk, fun hp L w hV => ?_⟩,
  ⟨rfl, fk, fun _ L w _ => xbare_is v l n hl w⟩, trivial⟩ (vE_one v l n hl _ rfl) ⟨hsl _, trivial⟩ rfl rfl ?_ hV
 ·have k6 : v.k = 6 := of_decide_eq_true (show decide (v.k = 6) = true from hp.1)
  have k3 : decide ((300 : Int) < X.evI (envE (.int .i64 M :: ckE v l n lc)) (.slen 18)) = false := hp.2.1
  rw [hln] at k3
  have := of_decide_eq_false k3
  exact hlc k6 (by omega) w hV
 ·have e : ckT.at (envE (.int .i64 M :: ckE v l n lc)) = bif decide (v.k = 1) then bif decide (decI v.t = 0) then bif barV v n then it 0 else it 2 else it 2 else bif decide (v.k = 2) then bif barV v n then it 0 else it 2 else bif decide (v.k = 5) then bif barV v n then it 0 else it 2 else
   bif decide (v.k = 3) then bif decide (ckI v.n v.s v.S = 0) then bif barV v n then it 0 else it 2 else it 2 else bif decide (v.k = 4) then bif decide ((bif Mo.okB v.m then (0 : Int) else 2) = 0) then bif barV v n then it 0 else it 2 else it 2 else
   bif decide (v.k = 6) then bif decide ((300 : Int) < X.evI (envE (.int .i64 M :: ckE v l n lc)) (.slen 18)) then it 2 else bif lc then it 2 else bif barV v n then it 0 else it 2 else it 2 := rfl
  rw [e, hln, decI_zero, ck_zero]
  unfold Lx.okV Lx.kindB
  show V.den L0 _ _ = Value.int .i64 (bif (_ && barV v n) then 0 else 2)
  have fin : ∀ b c : Bool, V.den L0 (envE (.int .i64 M :: ckE v l n lc)) (bif b then bif c then it 0 else it 2 else it 2) = Value.int .i64 (bif (b && c) then 0 else 2) := fun b c => by cases b <;> cases c <;> rfl
  by_cases h1 : v.k = 1
  ·rw [decide_eq_true h1, if_pos h1]; exact fin _ _
  rw [decide_eq_false h1, if_neg h1]
  by_cases h2 : v.k = 2
  ·rw [decide_eq_true h2, if_pos (.inl h2)]; exact fin true _
  rw [decide_eq_false h2]
  by_cases h5 : v.k = 5
  ·rw [decide_eq_true h5, if_pos (.inr h5)]; exact fin true _
  rw [decide_eq_false h5, if_neg (fun h => h.elim h2 h5)]
  by_cases h3 : v.k = 3
  ·rw [decide_eq_true h3, if_pos h3]; exact fin _ _
  rw [decide_eq_false h3, if_neg h3]
  by_cases h4 : v.k = 4
  ·rw [decide_eq_true h4, if_pos h4]; rw [show decide ((bif Mo.okB v.m then (0 : Int) else 2) = 0) = Mo.okB v.m by cases Mo.okB v.m <;> rfl]; exact fin _ _
  rw [decide_eq_false h4, if_neg h4]
  by_cases h6 : v.k = 6
  ·rw [decide_eq_true h6, if_pos h6]
   have hd : decide ((300 : Int) < (n : Int)) = !decide (n <= 300) := by
    rw [<- decide_not]; exact decide_eq_decide.2 (by omega)
   rw [hd]
   cases decide (n <= 300) <;> cases lc <;> cases barV v n <;> rfl
  ·rw [decide_eq_false h6, if_neg h6]; rfl
end Go.Proofs.YthoojcdjjecogaaGreatDoor
namespace Go.Proofs.YthoojcdjjecogaaGreatDoor
open Go Go.RowKit Go.Ex

def rcL (b : Nat) : List (X × Bool) := [(.lt (.int 0) (.slen (b + 17)), false)]
def rcK (b : Nat) (k : Int) : List (X × Bool) := (if k = 1 \/ k = 5 then [] else bcT b) ++ (if k = 2 then [] else bcB b) ++ (if k = 3 then [] else bcD b) ++ (if k = 4 then [] else bcM b) ++ (if k = 6 then [] else rcL b)
theorem rcK_at {E : Nat -> Value} {b n : Nat} {l : Value} (hl : SliceN l n) (hE : E (b + 17) = l) (k : Int) : chB E (rcK b k) = chB E (bcK b k) := by
 have e : chB E (rcL b) = chB E (bcL b) := by
  have hs : X.evI E (.slen (b + 17)) = (n : Int) := slen_ok hl hE
  simp only [chB, rcL, bcL, List.all_cons, List.all_nil, X.evB]
  rw [hs]
  show (decide ((0 : Int) < (n : Int)) == false && true) = (decide ((n : Int) = 0) == true && true)
  by_cases h : n = 0
  ·subst h; rfl
  ·rw [decide_eq_true (show (0 : Int) < (n : Int) by omega), decide_eq_false (show ¬(n : Int) = 0 by omega)]; rfl
 unfold rcK bcK
 rw [chB_append, chB_append _ _ (if k = 6 then [] else bcL b)]
 congr 1
 split
 ·rfl
 ·exact e
def z0 : Tree := .leaf (it 0)
def z2 : Tree := .leaf (it 2)
def rcC : List CallX := [⟨26, [xs 2], [], .tup [.junk 0, xi 19, xi 20]⟩, ⟨39, [deV 4], [], xi 21⟩, ⟨40, [moV 7], [], xi 22⟩]
theorem run_rck : ∀ k ∈ [(2 : Int), 5], chk (runTr Tryz.prog nG (fun _ => none) gd moT rcC 100 18 [vaK k 1 (.atom 18)] h0) (chT (rcK 1 k) z0 z2) [(.isSl 18, true)] = true := by decide +kernel
theorem run_rck1 : chk (runTr Tryz.prog nG (fun _ => none) gd moT rcC 100 18 [vaK 1 1 (.atom 18)] h0) (.node (.eq (.at 20) (.int 0)) (chT (rcK 1 1) z0 z2) z2) [(.isSl 18, true)] = true := by decide +kernel
theorem run_rck3 : chk (runTr Tryz.prog nG (fun _ => none) gd moT rcC 100 18 [vaK 3 1 (.atom 18)] h0) (.node (.eq (.at 21) (.int 0)) (chT (rcK 1 3) z0 z2) z2) [(.isSl 18, true)] = true := by decide +kernel
theorem run_rck4 : chk (runTr Tryz.prog nG (fun _ => none) gd moT rcC 100 18 [vaK 4 1 (.atom 18)] h0) (.node (.eq (.at 22) (.int 0)) (chT (rcK 1 4) z0 z2) z2) [(.isSl 18, true)] = true := by decide +kernel
theorem run_rck0 : chk (runTr Tryz.prog nG (fun _ => none) gd moT rcC 100 18 [vaV 1 (.atom 18)] h0) z2 noKi = true := by decide +kernel
def rckE (v : Vl) (l : Value) : List Value := vE v l ++ [.int .i64 (decP v.t), .int .i64 (decI v.t), .int .i64 (ckI v.n v.s v.S), .int .i64 (bif Mo.okB v.m then 0 else 2)]
theorem xrck_is (v : Vl) (hv : v.Sz) (l : Value) (n : Nat) (hl : SliceN l n) (lc : Bool) (h6 : v.k ≠ 6) (w : World) (M : Int) (hV : Vars M w) : Calls Tryz.prog 18 #[v.val l] w fun e w' => e = .returned (.int .i64 (bif Lx.okV v n lc then 0 else 2)) /\ Below w.heap.size w w' := by
 obtain ⟨E, hE⟩ : ∃ E, envE (.int .i64 M :: rckE v l) = E := ⟨_, rfl⟩
 have hone : (rckE v l).all Value.oneCell' = true := vE_one v l n hl _ rfl
 have hat : ∀ i, i < 18 -> E (1 + i) = (vE v l).getD i (.bool false) := hE ▸ vE_at v l M _
 have h18 : E 18 = l := by rw [<- hE]; rfl
 have hs : X.evB E (.isSl 18) = true := isSl_ok hl h18
 have b1 := rcK_at (E := E) (b := 1) hl h18
 have hAll : AllX Tryz.prog (envE (.int .i64 M :: rckE v l)) (Vars M) rcC := ⟨rdec_ok [] (fun _ => by have := hv.t; omega) rfl rfl rfl,
  ⟨rfl, fk, fun _ L w _ => rcheck_r v.n v.s v.S hv.s _ rfl w⟩,
  ⟨rfl, fk, fun _ L w hV => rcheckm_is v.m hv.m w M hV⟩, trivial⟩
 have bar : ∀ k, (v.k = k \/ (k = 0 /\ v.k ≠ 1 /\ v.k ≠ 2 /\ v.k ≠ 3 /\ v.k ≠ 4 /\ v.k ≠ 5 /\ v.k ≠ 6)) -> ((chT (rcK 1 k) z0 z2).at E).den L0 E = .int .i64 (bif barV v n then 0 else 2) := fun k hk => by
  rw [chT_at, b1, bcK_at v l n hl E 1 hat k hk]
  unfold barV
  cases (Lx.bareB v && (decide (v.k = 6) || decide (n = 0))) <;> rfl
 have fin : ∀ o : Bool, Lx.kindB v n lc = o -> Lx.okV v n lc = (o && barV v n) := fun o ho => by unfold Lx.okV; rw [ho]; rfl
 have d20 : X.evB E (.eq (.at 20) (.int 0)) = decide (decI v.t = 0) := by rw [<- hE]; rfl
 have d21 : X.evB E (.eq (.at 21) (.int 0)) = decide (ckI v.n v.s v.S = 0) := by rw [<- hE]; rfl
 have d22 : X.evB E (.eq (.at 22) (.int 0)) = decide ((bif Mo.okB v.m then (0 : Int) else 2) = 0) := by rw [<- hE]; rfl
 have nd : ∀ (c : X) (t : Tree) (o : Bool), X.evB E c = o -> ((Tree.node c t z2).at E).den L0 E = bif o then (t.at E).den L0 E else .int .i64 2 := fun c t o ho => by
  show (bif X.evB E c then t.at E else z2.at E).den L0 E = _
  rw [ho]; cases o <;> rfl
 have two : ∀ o b : Bool, (bif o then Value.int .i64 (bif b then 0 else 2) else .int .i64 2) = .int .i64 (bif o && b then 0 else 2) := fun o b => by cases o <;> cases b <;> rfl
 by_cases h1 : v.k = 1
 ·have hv' : ((Tree.node (.eq (.at 20) (.int 0)) (chT (rcK 1 1) z0 z2) z2).at E).den L0 E = .int .i64 (bif Lx.okV v n lc then 0 else 2) := by
   rw [nd _ _ _ d20, bar 1 (.inl h1), two, decI_zero, fin (decide (wrongI v.t = -1)) (by unfold Lx.kindB; rw [if_pos h1])]
  rw [<- hE] at hv' hs
  exact tree_rv run_rck1 hAll hone ⟨hs, trivial⟩ rfl (by rw [<- h1]; rfl) hv' hV
 by_cases h2 : v.k = 2 \/ v.k = 5
 ·have hv' : ((chT (rcK 1 v.k) z0 z2).at E).den L0 E = .int .i64 (bif Lx.okV v n lc then 0 else 2) := by
   rw [bar v.k (.inl rfl), fin true (by unfold Lx.kindB; rw [if_neg h1, if_pos h2]), Bool.true_and]
  rw [<- hE] at hv' hs
  exact tree_rv (run_rck v.k (by rcases h2 with h | h <;> rw [h] <;> decide)) hAll hone ⟨hs, trivial⟩ rfl rfl hv' hV
 by_cases h3 : v.k = 3
 ·have hv' : ((Tree.node (.eq (.at 21) (.int 0)) (chT (rcK 1 3) z0 z2) z2).at E).den L0 E = .int .i64 (bif Lx.okV v n lc then 0 else 2) := by
   rw [nd _ _ _ d21, bar 3 (.inl h3), two, fin (decide (ckI v.n v.s v.S = 0)) (by unfold Lx.kindB; rw [if_neg h1, if_neg h2, if_pos h3]; unfold ckI; cases okB v.n v.s v.S <;> rfl)]
  rw [<- hE] at hv' hs
  exact tree_rv run_rck3 hAll hone ⟨hs, trivial⟩ rfl (by rw [<- h3]; rfl) hv' hV
 by_cases h4 : v.k = 4
 ·have hv' : ((Tree.node (.eq (.at 22) (.int 0)) (chT (rcK 1 4) z0 z2) z2).at E).den L0 E = .int .i64 (bif Lx.okV v n lc then 0 else 2) := by
   rw [nd _ _ _ d22, bar 4 (.inl h4), two, fin (decide ((bif Mo.okB v.m then (0 : Int) else 2) = 0)) (by unfold Lx.kindB; rw [if_neg h1, if_neg h2, if_neg h3, if_pos h4]; cases Mo.okB v.m <;> rfl)]
  rw [<- hE] at hv' hs
  exact tree_rv run_rck4 hAll hone ⟨hs, trivial⟩ rfl (by rw [<- h4]; rfl) hv' hV
 ·have hv' : (z2.at E).den L0 E = .int .i64 (bif Lx.okV v n lc then 0 else 2) := by
   rw [fin false (by unfold Lx.kindB; rw [if_neg h1, if_neg h2, if_neg h3, if_neg h4, if_neg h6])]
   rfl
  rw [<- hE] at hv' hs
  exact tree_rv run_rck0 hAll hone ⟨decide_eq_false h1, decide_eq_false (fun h => h2 (.inr h)), decide_eq_false (fun h => h2 (.inl h)), decide_eq_false h3, decide_eq_false h4, decide_eq_false h6, hs, trivial⟩ rfl rfl hv' hV
end Go.Proofs.YthoojcdjjecogaaGreatDoor
namespace Go.Proofs.YthoojcdjjecogaaGreatDoor
open Go Go.RowKit
namespace Lx
end Lx
end Go.Proofs.YthoojcdjjecogaaGreatDoor
