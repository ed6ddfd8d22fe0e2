/-
  Part 35 of the proof: what functions return, and plain facts (Csq2 Xcheck Xhex Xtext5 Xord Xread Xpair Xrread). Conditions: each theorem names its own.
-/
import Derived.Test.YthoojcdjjecogaaGreatDoorG21
import Derived.Test.YthoojcdjjecogaaGreatDoorG07
import Derived.Test.YthoojcdjjecogaaGreatDoorG34
import Derived.Test.YthoojcdjjecogaaGreatDoorG03
import Derived.Test.YthoojcdjjecogaaGreatDoorG04
import Derived.IntWalk
import Derived.Test.YthoojcdjjecogaaGreatDoorG17
import Derived.Test.YthoojcdjjecogaaGreatDoorG29
set_option maxRecDepth 1000000
set_option maxHeartbeats 16000000
namespace Go.Proofs.YthoojcdjjecogaaGreatDoor
open Go Go.RowKit

theorem Tryz.info9 : (Tryz.prog.info? 9).map (fun i => (i.zero, i.size, i.bytes)) = some (some (.string ⟨#[]⟩), 1, 16) := by kernel_rfl

theorem f42_any (t : ByteArray) (ht : t.size <= 1000000) (m : Int) (w : World) (hm : w.cell? ⟨2, 0, none⟩ = some (.int .i64 m)) : Calls Tryz.prog 50 #[.string t, .string ⟨#[32]⟩] w fun e w' =>
  ∃ (B : Nat) (xs : List ByteArray), e = .returned (.slice (some ⟨B, 0, none⟩) xs.length xs.length) /\ B = w.heap.size /\ w'.heap.size = w.heap.size + 1 /\ xs.length <= t.size + 1 /\ xs.map (·.data.toList) = Lib.split t.data.toList [32] /\
   (∀ (j : Nat) x, xs[j]? = some x -> w'.cell? ⟨B, j, none⟩ = some (.string x)) /\ Below w.heap.size w w' := by
 refine (Tryz.strings_Split t ⟨#[32]⟩ m w (by omega) hm (by decide)).mono ?_
 rintro e w' ⟨rfl, rfl⟩
 have h1 := Lib.splitB_all ⟨#[32]⟩ (by decide) 0 (Lib.countB t ⟨#[32]⟩) t rfl
 have h2 := Lib.countB_le ⟨#[32]⟩ (by decide) t.size t (Nat.le_refl _)
 refine ⟨w.heap.size, Lib.splitB ⟨#[32]⟩ 0 (Lib.countB t ⟨#[32]⟩) t, by rw [h1], rfl, by simp, by omega, Lib.splitB_data _ _ _ _, fun j x hx => ?_, (Below.refl _ _).alloc (Nat.le_refl _) _⟩
 have := World.alloc_heap_new w (.cells ((Lib.splitB ⟨#[32]⟩ 0 (Lib.countB t ⟨#[32]⟩) t).map Value.string).toArray 9)
 rw [World.cell?, this]
 simp [hx]

theorem own_strings {W : World} {B n : Nat} {v : Value} {ws : List ByteArray} (h : W.ownsRow B 9 1 v n (ws.map Value.string)) (hne : n ≠ 0) :
  ∃ g cap, v = .slice (some ⟨g, 0, none⟩) n cap /\ n <= cap /\ g < W.heap.size /\ ∀ (j : Nat) x, ws[j]? = some x -> W.cell? ⟨g, 0 + j, none⟩ = some (.string x) := by
 obtain ⟨hl, ⟨_, h0⟩ | ⟨g, cap, cur, rfl, _, hg, hn, hc, hz, ht⟩⟩ := h
 ·exact absurd h0 hne
 ·refine ⟨g, cap, rfl, hn, (Array.getElem?_eq_some_iff.1 hg).1, fun j x hx => ?_⟩
  have hj : j < n := by
   have := (List.getElem?_eq_some_iff.1 hx).1
   rw [List.length_map] at hl; omega
  have e : (cur.toList.take (n * 1))[j]? = cur.toList[j]? := List.getElem?_take_of_lt (by omega)
  rw [ht, List.getElem?_map, hx] at e
  have e2 : cur[j]? = some (Value.string x) := by
   rw [<- Array.getElem?_toList, <- e]; rfl
  simp [World.cell?, hg, e2]

theorem f43_any (ws : List ByteArray) (v : Value) (B : Nat) (w : World) (hw : ws.length <= 1000001) (hlen : (Lib.join (ws.map (·.data.toList)) [32]).length <= 140737488355328) (h : w.ownsRow B 9 1 v ws.length (ws.map Value.string)) :
  Calls Tryz.prog 51 #[v, .string ⟨#[32]⟩] w fun e w' => (∃ bs : ByteArray, e = .returned (.string bs) /\ bs = ⟨(Lib.join (ws.map (·.data.toList)) [32]).toArray⟩) /\ Below w.heap.size w w' := by
 by_cases hz : ws.length = 0
 ·have hn : ws = [] := List.length_eq_zero_iff.1 hz
  subst hn
  obtain ⟨a, cap, rfl⟩ := row_slice h
  refine (Tryz.strings_Join_none a cap ⟨#[32]⟩ w).mono ?_
  rintro e w' ⟨rfl, rfl⟩
  exact ⟨⟨_, rfl, rfl⟩, Below.refl _ _⟩
 ·obtain ⟨g, cap, rfl, hcap, hg, hc⟩ := own_strings h hz
  refine (Tryz.strings_Join g 0 cap ws ⟨#[32]⟩ w hc hg (by omega) hcap hlen).mono ?_
  rintro e w' ⟨rfl, hb⟩
  exact ⟨⟨_, rfl, rfl⟩, hb⟩

def fullB (xs : List ByteArray) : List ByteArray := xs.filter fun x => !decide (x.size = 0)
theorem fullB_data (xs : List ByteArray) : (fullB xs).map (·.data.toList) = full (xs.map (·.data.toList)) := by
 induction xs with
 | nil => rfl
 | cons x xs ih =>
  have e : (x.data.toList).isEmpty = decide (x.size = 0) := by
   have : x.size = x.data.toList.length := rfl
   rw [this]
   cases x.data.toList <;> simp
  simp only [fullB, full, List.filter_cons, List.map_cons, e] at ih ⊢
  split
  ·rw [List.map_cons, ih]
  ·exact ih
theorem fullB_succ (xs : List ByteArray) (k : Nat) (h : k < xs.length) : fullB (xs.take (k + 1)) = if xs[k].size = 0 then fullB (xs.take k) else fullB (xs.take k) ++ [xs[k]] := by
 have e : fullB (xs.take (k + 1)) = fullB (xs.take k) ++ fullB [xs[k]] := by rw [List.take_succ_eq_append_getElem h, fullB, List.filter_append]; rfl
 rw [e]
 by_cases h0 : xs[k].size = 0
 ·have e2 : fullB [xs[k]] = [] := by rw [fullB, List.filter_cons, decide_eq_true h0]; rfl
  rw [if_pos h0, e2, List.append_nil]
 ·have e2 : fullB [xs[k]] = [xs[k]] := by rw [fullB, List.filter_cons, decide_eq_false h0]; rfl
  rw [if_neg h0, e2]
theorem sqTwo_length (s : ByteArray) : (sqTwo (bts s)).length <= s.size := by
 have := sqRow_length (bts s)
 rw [bts_length] at this
 unfold sqTwo
 split
 ·rw [List.length_dropLast]; omega
 ·exact this
theorem f22_2 (s : ByteArray) (hs : s.size <= 150000) (w : World) (hG : Rng w) (m : Int) (hm : w.cell? ⟨2, 0, none⟩ = some (.int .i64 m)) (hw : wrongI s = -1) : Calls Tryz.prog 25 #[.string s, .int .i64 2] w fun e w' =>
  e = .returned (.tuple #[.string (str (sqTwo (bts s))), .int .i64 0]) /\ Below w.heap.size w w' := by
 obtain ⟨i9, hi, hz0, hz1, hz2⟩ := info_parts Tryz.info9
 have hd : decide (0 <= wrongI s) = false := decide_eq_false (by omega)
 have h2w : 2 < w.heap.size := by
  rcases Nat.lt_or_ge 2 w.heap.size with h | h
  ·exact h
  ·rw [World.cell?, Array.getElem?_eq_none h] at hm; cases hm
 clear hw
 go_enter Tryz.func25, Tryz.ntmps25
 go_wp2_with (go_at_call 48; refine (f31_any s (by unfold maxLen; omega) _ hG).mono ?_; rintro e w0 ⟨rfl, hb0⟩; obtain ⟨cap, w1, hcv, hrow, hb1⟩ := bytes_row w0 s)
 go_loopw [31] (fun i wr => ∃ k : Nat, k <= s.size /\ i = .int .i64 k /\ Row8 wr w0.heap.size cap (sqUpto (bts s) k) /\ Below w.heap.size w wr) (fun i _ => s.size - (intOf i).toNat)
 case atStart => exact ⟨0, Nat.zero_le _, rfl, hrow, hb0.trans (hb1.mono hb0.size)⟩
 case round =>
  obtain ⟨k, hk, rfl, hr, hB⟩ := hrel
  by_cases hlt : k < s.size
  ·have hlb : k < (bts s).length := by rw [bts_length]; exact hlt
   obtain ⟨c, hc⟩ : ∃ c, (bts s)[k]'hlb = c := ⟨_, rfl⟩
   have hwr : wrap32 (c : Int) = (c : Int) := by have := (s[k]'hlt).toNat_lt; rw [<- bts_get s k hlt, hc] at this; unfold wrap32; omega
   have hcell := hr.at (j := k) (by rw [sqUpto_length]; exact hlb)
   rw [sqUpto_get _ _ hlb, hc] at hcell
   have hfz := hr.open (j := k) (by rw [sqUpto_length]; exact hlb)
   cases hbl : Ch.blank (c : Int) with
   | true =>
    have e1 : Hid (Row8 (wr.setCell ⟨w0.heap.size, k, none⟩ (.int .u8 32)) w0.heap.size cap (sqUpto (bts s) (k + 1))) := Lib.hid (by
     have := hr.put k 32
     have e : sqB ((bts s)[k]'hlb) = 32 := by rw [hc]; simp [sqB, hbl]
     rw [<- e, sqUpto_set _ _ hlb] at this
     rw [e] at this
     exact this)
    have HBL : Hid _ := Lib.hid hbl
    clear hbl hc
    go_wp2_with (go_at_call 49; refine (f10_any _ _).mono ?_; rintro e w3 ⟨rfl, rfl⟩; rw [HBL.out])
    go_roundw
    case rel => exact ⟨k + 1, by omega, by simp, e1.out, hB.setCell (p := ⟨w0.heap.size, k, none⟩) hb0.size _⟩
    case measure => simp [intOf]; omega
   | false =>
    have e1 : Hid (Row8 wr w0.heap.size cap (sqUpto (bts s) (k + 1))) := Lib.hid (by
     have e : sqB ((bts s)[k]'hlb) = (bts s)[k]'hlb := by rw [hc]; simp [sqB, hbl]
     rw [sqUpto_same _ _ hlb e]; exact hr)
    have HBL : Hid _ := Lib.hid hbl
    clear hbl hc
    go_wp2_with (go_at_call 49; refine (f10_any _ _).mono ?_; rintro e w3 ⟨rfl, rfl⟩; rw [HBL.out])
    go_roundw
    case rel => exact ⟨k + 1, by omega, by simp, e1.out, hB⟩
    case measure => simp [intOf]; omega
  ·have hcv2 := hr.str
   rw [sqUpto_length, bts_length, sqUpto_all _ _ (by rw [bts_length]; omega)] at hcv2
   obtain ⟨t, ht⟩ : ∃ t, str ((bts s).map sqB) = t := ⟨_, rfl⟩
   have hts : t.size <= 150000 := by rw [<- ht, str_size, List.length_map, bts_length]; exact hs
   have htd : Hid (t.data.toList = ((bts s).map sqB).map UInt8.ofNat) := Lib.hid (by rw [<- ht]; simp [str])
   rw [ht] at hcv2
   have hm1 : wr.cell? ⟨2, 0, none⟩ = some (.int .i64 m) := by
    rw [World.cell?, hB.block 2 h2w]; exact hm
   clear hcv ht
   go_wp2_with (go_at_call 50; refine (f42_any t (by omega) m _ hm1).mono ?_; rintro e w4 ⟨B2, xs, rfl, hB2, hs4, hxl, hxs, hcs, hb4⟩; have HXS : Hid _ := Lib.hid hxs; clear hxs; have HCS : Hid _ := Lib.hid hcs; clear hcs; have hb2 : B2 < w4.heap.size /\ w.heap.size <= B2 := ⟨by omega, by rw [hB2]; exact hB.size⟩; obtain ⟨hb2a, hb2b⟩ := hb2; clear hB2 hs4)
   go_loopw [9, 51] (fun v i wr => ∃ (k : Nat) (ws : List ByteArray), k <= xs.length /\ i = .int .i64 k /\ ws.length <= k /\ Hid (ws = fullB (xs.take k)) /\ wr.ownsRow (B2 + 1) 9 1 v ws.length (ws.map Value.string) /\ Hid (∀ (j : Nat) x, xs[j]? = some x -> wr.cell? ⟨B2, j, none⟩ = some (.string x)) /\ B2 < wr.heap.size /\ Below w.heap.size w wr) (fun _ i _ => xs.length - (intOf i).toNat)
   case atStart => exact ⟨0, [], Nat.zero_le _, rfl, by simp, Lib.hid rfl, ⟨rfl, .inl ⟨rfl, rfl⟩⟩, HCS, hb2a, hB.trans (hb4.mono hB.size)⟩
   case round =>
    obtain ⟨j, ws, hj, rfl, hwj, hws, hown, hcells, hlt2, hB5⟩ := hrel
    by_cases hjl : j < xs.length
    ·obtain ⟨x, hx⟩ : ∃ x, xs[j]'hjl = x := ⟨_, rfl⟩
     have hsucc := fullB_succ xs j hjl
     rw [hx, <- hws.out] at hsucc
     have hcell := hcells.out j x (by rw [List.getElem?_eq_getElem hjl, hx])
     by_cases h0 : x.size = 0
     ·rw [if_pos h0] at hsucc
      have he := isEmpty_yes h0
      have HS : Hid _ := Lib.hid hsucc
      clear hsucc h0 hx hws
      go_wp2
      go_roundw
      case rel => exact ⟨j + 1, ws, by omega, by simp, by omega, Lib.hid HS.out.symm, hown, hcells, hlt2, hB5⟩
      case measure => simp [intOf]; omega
     ·rw [if_neg h0] at hsucc
      have he := isEmpty_no (Nat.pos_of_ne_zero h0)
      have HS : Hid _ := Lib.hid hsucc
      clear hsucc h0 hx hws
      go_wp2_with (at_builtin; go_must (refine wpList_append_own _ rfl _ _ 81 rfl (B2 + 1) 9 i9 (.string ⟨#[]⟩) 1 16 Tryz.underlying81 hi hz0 hz1 hz2 rfl (by decide) _ ws.length (ws.map Value.string) rfl (hown.alloc _) ⟨wr.heap.size, 0, none⟩ 1 1 [.string x] rfl rfl (cell_one_new _ _ _) (by simp [Value.oneCell']) (by unfold maxLen; omega) (by omega) (by simp; omega) ?_); intro v' w2 hown2 hgrow _)
      go_roundw
      case rel =>
       have hgr := grownBy_alloc hgrow
       have hne : some B2 ≠ u9.ownBlock := row_ge hown B2 (by omega)
       refine ⟨j + 1, ws ++ [x], by omega, by simp, by simp; omega, Lib.hid HS.out.symm, by rw [List.length_append, List.map_append]; exact hown2, Lib.hid (fun i y hy => ?_), ?_, ?_⟩
       ·rw [World.cell?, hgr.block B2 hlt2 hne]; exact hcells.out i y hy
       ·exact Nat.lt_of_lt_of_le hlt2 hgr.size
       ·exact hB5.grown hgr hB5.size (fun i e => (Nat.lt_or_ge i (B2 + 1)).elim (fun hi => absurd e.symm (row_ge hown i hi)) (fun h => by omega))
      case measure => simp [intOf]; omega
    ·have hall : fullB (xs.take j) = fullB xs := by rw [List.take_of_length_le (by omega)]
     have hfin : Lib.join (ws.map (·.data.toList)) [32] = (sqTwo (bts s)).map UInt8.ofNat := by
      rw [sqTwo_eq _ (bts_lt s), <- htd.out, <- HXS.out, <- fullB_data, <- hall, <- hws.out]
     have hlen : (Lib.join (ws.map (·.data.toList)) [32]).length <= 140737488355328 := by
      rw [hfin, List.length_map]; have := sqTwo_length s; omega
     have HF : Hid (∀ bs : ByteArray, bs = ⟨(Lib.join (ws.map (·.data.toList)) [32]).toArray⟩ -> bs = str (sqTwo (bts s))) := Lib.hid (fun bs h => by rw [h, hfin]; rfl)
     clear hall hfin
     go_wp2_with (go_at_call 51; refine (f43_any ws _ (B2 + 1) _ (by omega) hlen hown).mono ?_; rintro e w6 ⟨⟨bs, rfl, hbs⟩, hb6⟩; have HB : Hid _ := Lib.hid hbs; clear hbs)
     go_ret2
     go_light
     exact ⟨by rw [HF.out bs HB.out]; rfl, hB5.trans (hb6.mono hB5.size)⟩
open Go.Ex
def chT : List (X × Bool) -> Tree -> Tree -> Tree
 | [], y, _ => y
 | (e, true) :: l, y, n => .node e (chT l y n) n
 | (e, false) :: l, y, n => .node e n (chT l y n)
def chB (E : Nat -> Value) (l : List (X × Bool)) : Bool := l.all fun p => p.1.evB E == p.2
theorem chT_at (E : Nat -> Value) (y n : Tree) : ∀ l : List (X × Bool), (chT l y n).at E = bif chB E l then y.at E else n.at E
 | [] => rfl
 | (e, true) :: l => by
  have ih := chT_at E y n l
  simp only [chT, Tree.at, ih, chB, List.all_cons]
  cases e.evB E <;> rfl
 | (e, false) :: l => by
  have ih := chT_at E y n l
  simp only [chT, Tree.at, ih, chB, List.all_cons]
  cases e.evB E <;> rfl
theorem chB_append (E : Nat -> Value) (l m : List (X × Bool)) : chB E (l ++ m) = (chB E l && chB E m) := List.all_append
def vaK (k : Int) (b : Nat) (l : V) : V := vl (it k) (xs (b + 1)) (xb (b + 2)) (xb (b + 3)) (xs (b + 4)) (xi (b + 5)) (moL (b + 6)) l
def bcT (b : Nat) : List (X × Bool) := [(.seq (.at (b + 1)) (.str []), true)]
def bcB (b : Nat) : List (X × Bool) := [(.at (b + 2), false)]
def bcD (b : Nat) : List (X × Bool) := [(.beq (.at (b + 3)) (.tt false), true), (.seq (.at (b + 4)) (.str []), true), (.eq (.at (b + 5)) (.int 0), true)]
def bcM (b : Nat) : List (X × Bool) := [(.eq (.at (b + 6)) (.int 0), true), (.eq (.at (b + 7)) (.int 0), true), (.eq (.at (b + 8)) (.int 0), true), (.eq (.at (b + 9)) (.int 0), true), (.eq (.at (b + 10)) (.int 0), true), (.eq (.at (b + 11)) (.int 0), true), (.beq (.at (b + 12)) (.tt false), true), (.seq (.at (b + 13)) (.str []), true), (.eq (.at (b + 14)) (.int 0), true), (.beq (.at (b + 15)) (.tt false), true), (.eq (.at (b + 16)) (.int 0), true)]
def bcL (b : Nat) : List (X × Bool) := [(.eq (.slen (b + 17)) (.int 0), true)]
def bcK (b : Nat) (k : Int) : List (X × Bool) := (if k = 1 \/ k = 5 then [] else bcT b) ++ (if k = 2 then [] else bcB b) ++ (if k = 3 then [] else bcD b) ++ (if k = 4 then [] else bcM b) ++ (if k = 6 then [] else bcL b)
def yesT : Tree := .leaf (.bool true)
def noT : Tree := .leaf (.bool false)
def noKi : Fx := [(.eq (.at 1) (.int 1), false), (.eq (.at 1) (.int 5), false), (.eq (.at 1) (.int 2), false), (.eq (.at 1) (.int 3), false), (.eq (.at 1) (.int 4), false), (.eq (.at 1) (.int 6), false), (.isSl 18, true)]
theorem run_bare : ∀ k ∈ [(1 : Int), 2, 3, 4, 5, 6], chk (runTr Tryz.prog nG (fun _ => none) (fun _ => true) moT [] 100 38 [vaK k 1 (.atom 18)] hN) (chT (bcK 1 k) yesT noT) [(.isSl 18, true)] = true := by decide +kernel
theorem run_bare0 : chk (runTr Tryz.prog nG (fun _ => none) (fun _ => true) moT [] 100 38 [vaV 1 (.atom 18)] hN) (chT (bcK 1 0) yesT noT) noKi = true := by decide +kernel
def SliceN (l : Value) (n : Nat) : Prop := ∃ a c, l = .slice a n c
theorem nilL_slice : SliceN nilL 0 := ⟨_, _, rfl⟩
def vE (v : Vl) (l : Value) : List Value := v.list ++ [l]
theorem mo_nilB (m : Mo) (E : Nat -> Value) (b : Nat) (h : ∀ i, i < 11 -> E (b + 6 + i) = m.list.getD i (.bool false)) : chB E (bcM b) = valsEq m.list Mo.nil.list := by
 have h0 := h 0 (by decide)
 have h1 := h 1 (by decide)
 have h2 := h 2 (by decide)
 have h3 := h 3 (by decide)
 have h4 := h 4 (by decide)
 have h5 := h 5 (by decide)
 have h6 := h 6 (by decide)
 have h7 := h 7 (by decide)
 have h8 := h 8 (by decide)
 have h9 := h 9 (by decide)
 have h10 := h 10 (by decide)
 simp only [Mo.list, List.getD_cons_zero, List.getD_cons_succ, Nat.add_zero, Nat.add_assoc, Nat.reduceAdd] at h0 h1 h2 h3 h4 h5 h6 h7 h8 h9 h10
 simp only [chB, bcM, List.all_cons, List.all_nil, X.evB, X.evI, X.evS, h0, h1, h2, h3, h4, h5, h6, h7, h8, h9, h10, Mo.list, Mo.nil, valsEq, beq_true]
 rfl
theorem bcK_at (v : Vl) (l : Value) (n : Nat) (hl : SliceN l n) (E : Nat -> Value) (b : Nat) (h : ∀ i, i < 18 -> E (b + i) = (vE v l).getD i (.bool false)) (k : Int) (hk : v.k = k \/ (k = 0 /\ v.k ≠ 1 /\ v.k ≠ 2 /\ v.k ≠ 3 /\ v.k ≠ 4 /\ v.k ≠ 5 /\ v.k ≠ 6)) :
  chB E (bcK b k) = (Lx.bareB v && (decide (v.k = 6) || decide (n = 0))) := by
 obtain ⟨a, c, rfl⟩ := hl
 have h1 := h 1 (by decide)
 have h2 := h 2 (by decide)
 have h3 := h 3 (by decide)
 have h4 := h 4 (by decide)
 have h5 := h 5 (by decide)
 have h17 := h 17 (by decide)
 have hM := mo_nilB v.m E b (fun i hi => by rw [Nat.add_assoc, h (6 + i) (by omega)]; unfold vE Vl.list; rw [List.append_assoc, List.getD_eq_getElem?_getD, List.getElem?_append_right (by simp), List.getElem?_append_left (by simp [Mo.list]; omega)]; simp [List.getD_eq_getElem?_getD])
 simp only [vE, Vl.list, Mo.list, List.cons_append, List.nil_append, List.getD_cons_zero, List.getD_cons_succ] at h1 h2 h3 h4 h5 h17
 have hT : chB E (bcT b) = decide (v.t = ⟨#[]⟩) := by simp only [chB, bcT, List.all_cons, List.all_nil, X.evB, X.evS, h1, Bool.and_true, beq_true]; rfl
 have hB : chB E (bcB b) = !v.b := by simp only [chB, bcB, List.all_cons, List.all_nil, X.evB, h2, Bool.and_true]; cases v.b <;> rfl
 have hD : chB E (bcD b) = (!v.n && decide (v.s = ⟨#[]⟩) && decide (v.S = 0)) := by
  simp only [chB, bcD, List.all_cons, List.all_nil, X.evB, X.evS, X.evI, h3, h4, h5, Bool.and_true, beq_true]
  cases v.n <;> rfl
 have hL : chB E (bcL b) = decide (n = 0) := by
  simp only [chB, bcL, List.all_cons, List.all_nil, X.evB, X.evI, h17, Bool.and_true, beq_true]
  exact decide_eq_decide.2 (by omega)
 have key : ∀ (p : Prop) [Decidable p] (x : List (X × Bool)), chB E (if p then [] else x) = (decide p || chB E x) := fun p _ x => by
  by_cases hp : p
  ·rw [if_pos hp, decide_eq_true hp]; rfl
  ·rw [if_neg hp, decide_eq_false hp]; rfl
 unfold bcK Lx.bareB
 rw [chB_append, chB_append, chB_append, chB_append, key, key, key, key, key, hT, hB, hD, hM, hL]
 rcases hk with rfl | ⟨rfl, k1, k2, k3, k4, k5, k6⟩
 ·rw [show decide (v.k = 1 \/ v.k = 5) = (decide (v.k = 1) || decide (v.k = 5)) by simp]
 ·rw [decide_eq_false k1, decide_eq_false k2, decide_eq_false k3, decide_eq_false k4, decide_eq_false k5, decide_eq_false k6]
  simp
end Go.Proofs.YthoojcdjjecogaaGreatDoor
namespace Go.Proofs.YthoojcdjjecogaaGreatDoor
open Go Go.RowKit
namespace Lx
def halfI (c : Nat) : Int := match half c with
 | some n => (n : Int)
 | none => -1
theorem half_lt {c n : Nat} (h : half c = some n) : n < 16 := by
 unfold half at h
 split at h
 ·cases h; omega
 ·split at h
  ·cases h; omega
  ·split at h
   ·cases h; omega
   ·cases h
theorem hexL_step {a b x y : Nat} {r : List Nat} (h1 : half a = some x) (h2 : half b = some y) : hexL (a :: b :: r) = (hexL r).map ((16 * x + y) :: ·) := by
 rw [hexL, h1, h2]; rfl
theorem hexL_bad {a b : Nat} {r : List Nat} (h : half a = none \/ half b = none) : hexL (a :: b :: r) = none := by
 rw [hexL]
 rcases h with h | h
 ·rw [h]; rfl
 ·rw [h]; cases half a <;> rfl
theorem hexL_odd : ∀ (n : Nat) (l : List Nat), l.length = 2 * n + 1 -> hexL l = none
 | _, [], h => by simp at h
 | _, [_], _ => rfl
 | 0, _ :: _ :: r, h => by simp at h
 | n + 1, a :: b :: r, h => by
  have := hexL_odd n r (by simp at h; omega)
  rw [hexL, this]
  cases half a <;> cases half b <;> rfl
def Hexed (l : List Nat) (k : Nat) (o : List Nat) : Prop := hexL l = (hexL (l.drop (2 * k))).map (o ++ ·) /\ o.length = k /\ ∀ c ∈ o, c < 256
theorem Hexed.start (l : List Nat) : Hexed l 0 [] := ⟨by simp, rfl, by simp⟩
theorem Hexed.done {l : List Nat} {k : Nat} {o : List Nat} (h : Hexed l k o) (hk : l.length <= 2 * k) : hexL l = some o := by
 rw [h.1, List.drop_eq_nil_of_le hk]; simp [hexL]
theorem drop2 {l : List Nat} {k : Nat} (h : k + 1 < l.length) : l.drop k = l.getD k 0 :: l.getD (k + 1) 0 :: l.drop (k + 2) := by
 rw [List.drop_eq_getElem_cons (by omega), List.drop_eq_getElem_cons h]
 simp [List.getD_eq_getElem?_getD, List.getElem?_eq_getElem (show k < l.length by omega), List.getElem?_eq_getElem h]
theorem Hexed.next {l : List Nat} {k x y : Nat} {o : List Nat} (h : Hexed l k o) (hk : 2 * k + 1 < l.length) (h1 : half (l.getD (2 * k) 0) = some x) (h2 : half (l.getD (2 * k + 1) 0) = some y) : Hexed l (k + 1) (o ++ [16 * x + y]) := by
 have hx := half_lt h1
 have hy := half_lt h2
 refine ⟨?_, by rw [List.length_append, h.2.1]; rfl, fun c hc => ?_⟩
 ·rw [h.1, drop2 hk, hexL_step h1 h2, Option.map_map]
  congr 1
  funext r
  simp
 ·rcases List.mem_append.1 hc with hc | hc
  ·exact h.2.2 c hc
  ·simp at hc; omega
theorem Hexed.bad {l : List Nat} {k : Nat} {o : List Nat} (h : Hexed l k o) (hk : 2 * k + 1 < l.length) (h1 : half (l.getD (2 * k) 0) = none \/ half (l.getD (2 * k + 1) 0) = none) : hexL l = none := by
 rw [h.1, drop2 hk, hexL_bad h1]; rfl
theorem halfI_cases (c : Nat) : (half c = none /\ halfI c = -1) \/ ∃ x, half c = some x /\ halfI c = (x : Int) /\ x < 16 := by
 cases h : half c with
 | none => left; unfold halfI; rw [h]; exact ⟨rfl, rfl⟩
 | some x => right; refine ⟨x, rfl, ?_, half_lt h⟩; unfold halfI; rw [h]
end Lx
def u8a : List UInt8 := [97, 98, 99, 100, 101, 102]
def u8b : List UInt8 := [48, 49, 50, 51, 52, 53, 54, 55, 56, 57, 65, 66, 67, 68, 69, 70]
theorem half_tab (c : Nat) (hc : c < 256) : (if Lib.indexByte u8a (Int.toNat (c : Int)).toUInt8 < 0 then Lib.indexByte u8b (Int.toNat (c : Int)).toUInt8 else 10 + Lib.indexByte u8a (Int.toNat (c : Int)).toUInt8) = Lx.halfI c /\ -1 <= Lib.indexByte u8a (Int.toNat (c : Int)).toUInt8 /\ Lib.indexByte u8a (Int.toNat (c : Int)).toUInt8 <= 5 := by
 have h : ∀ n : Fin 256, (if Lib.indexByte u8a (Int.toNat (n.val : Int)).toUInt8 < 0 then Lib.indexByte u8b (Int.toNat (n.val : Int)).toUInt8 else 10 + Lib.indexByte u8a (Int.toNat (n.val : Int)).toUInt8) = Lx.halfI n.val /\ -1 <= Lib.indexByte u8a (Int.toNat (n.val : Int)).toUInt8 /\ Lib.indexByte u8a (Int.toNat (n.val : Int)).toUInt8 <= 5 := by decide +kernel
 exact h ⟨c, hc⟩
theorem xhalf_is (c : Nat) (hc : c < 256) (w : World) : Calls Tryz.prog 255 #[.int .u8 (c : Int)] w fun e w' => e = .returned (.int .i64 (Lx.halfI c)) /\ w' = w := by
 have ht := half_tab c hc
 obtain ⟨i, hi⟩ : ∃ i, Lib.indexByte u8a (Int.toNat (c : Int)).toUInt8 = i := ⟨_, rfl⟩
 obtain ⟨j, hj⟩ : ∃ j, Lib.indexByte u8b (Int.toNat (c : Int)).toUInt8 = j := ⟨_, rfl⟩
 rw [hi, hj] at ht
 obtain ⟨ht, h1, h2⟩ := ht
 have CA : Hid (∀ w, Calls Tryz.prog 210 #[.string ⟨#[97, 98, 99, 100, 101, 102]⟩, .int .u8 (c : Int)] w fun e w' => e = .returned (.int .i64 i) /\ w' = w) := Lib.hid (fun w => by rw [<- hi]; exact Tryz.strings_IndexByte _ _ w)
 have CB : Hid (∀ w, Calls Tryz.prog 210 #[.string ⟨#[48, 49, 50, 51, 52, 53, 54, 55, 56, 57, 65, 66, 67, 68, 69, 70]⟩, .int .u8 (c : Int)] w fun e w' => e = .returned (.int .i64 j) /\ w' = w) := Lib.hid (fun w => by rw [<- hj]; exact Tryz.strings_IndexByte _ _ w)
 have HT := Lib.hid ht
 have tok1 : True := trivial
 clear hi hj ht hc
 by_cases h0 : i < 0
 ·have HV : Hid (j = Lx.halfI c) := Lib.hid (by rw [<- HT.out, if_pos h0])
  go_enter Tryz.func255, Tryz.ntmps255
  go_wp2_with (first
   | (go_at_call 210; have _t := tok1; refine (CA.out _).mono ?_; rintro e w1 ⟨rfl, rfl⟩; clear tok1 _t)
   | (go_at_call 210; refine (CB.out _).mono ?_; rintro e w1 ⟨rfl, rfl⟩))
  go_ret
  exact ⟨by rw [HV.out]; rfl, rfl⟩
 ·have HV : Hid (10 + i = Lx.halfI c) := Lib.hid (by rw [<- HT.out, if_neg h0])
  go_enter Tryz.func255, Tryz.ntmps255
  go_wp2_with (go_at_call 210; have _t := tok1; refine (CA.out _).mono ?_; rintro e w1 ⟨rfl, rfl⟩; clear tok1 _t)
  go_ret
  exact ⟨by rw [HV.out]; rfl, rfl⟩
theorem or_hex (x y : Nat) (hx : x < 16) (hy : y < 16) : bits BinOp.or IntKind.i64 ((x : Int) * 16) (y : Int) % 256 = ((16 * x + y : Nat) : Int) := by
 have h : ∀ x y : Fin 16, bits BinOp.or IntKind.i64 ((x.val : Int) * 16) (y.val : Int) % 256 = ((16 * x.val + y.val : Nat) : Int) := by decide +kernel
 exact h ⟨x, hx⟩ ⟨y, hy⟩
def vz : Array Value := (Lx.zero.list ++ [nilL]).toArray
theorem zero_val : (Tryz.prog.info? 29).bind (·.zero) = some (.agg vz) := by kernel_rfl
theorem xhexr_is (s : ByteArray) (hs : s.size <= 1000) (w : World) : Calls Tryz.prog 254 #[.agg #[], .string s] w fun e w' => e = .returned (.tuple #[(Lx.hexV (bts s)).1.val nilL, .int .i64 (Lx.hexV (bts s)).2]) /\ Below w.heap.size w w' := by
 obtain ⟨n, hn⟩ : ∃ n, s.size = 2 * n \/ s.size = 2 * n + 1 := ⟨s.size / 2, by omega⟩
 rcases hn with hn | hn
 ·have hm : Int.tmod (s.size : Int) 2 = 0 := by rw [Int.tmod_eq_emod_of_nonneg (by omega)]; omega
  have HN := Lib.hid hn
  clear hn
  go_enter Tryz.func254, Tryz.ntmps254
  go_wp2_with (first
   | (refine wl_boxA rfl _ rfl rfl (fun W1 b1 hb => ?_); have hB1 := hb; clear hb)
   | (refine wl_allocA rfl zero_val rfl (fun W2 b2 hb => ?_); have hB := below_step hB1 hb; clear hb))
  have hlt2 := b2.lt
  have hw2 := hB.size
  have hbl0 : Lib.IsBuilder 99 5 W2.heap.size W2.heap.size (u8s []) (W2.alloc (.cells #[.pointer none, .slice none 0 0] 99)) :=
   .inl ⟨Nat.le_refl _, _, World.alloc_heap_new W2 _, ⟨rfl, .inl ⟨rfl, rfl⟩⟩, by simp [Value.ownBlock]⟩
  have hbb0 : Below w.heap.size w (W2.alloc (.cells #[.pointer none, .slice none 0 0] 99)) := hB.alloc hB.size _
  have hbv0 := b2.old (.cells #[.pointer none, .slice none 0 0] 99)
  have hsz0 : W2.heap.size <= (W2.alloc (.cells #[.pointer none, .slice none 0 0] 99)).heap.size := by simp
  go_loopw [7] (fun i wr => ∃ (k : Nat) (o : List Nat), 2 * k <= s.size /\ i = .int .i64 ((2 * k : Nat) : Int) /\ Hid (Lx.Hexed (bts s) k o) /\ o.length <= 1000 /\ Lib.IsBuilder 99 5 W2.heap.size W2.heap.size (u8s o) wr /\ Blk wr W1.heap.size 29 vz /\ W2.heap.size <= wr.heap.size /\ Below w.heap.size w wr) (fun i _ => s.size - (intOf i).toNat)
  case atStart => exact ⟨0, [], Nat.zero_le _, rfl, Lib.hid (Lx.Hexed.start _), by simp, hbl0, hbv0, hsz0, hbb0⟩
  case round =>
   clear hbl0 hbb0 hbv0 hsz0 b1 b2 hB
   obtain ⟨k, o, hk, rfl, hx, hol, hbl, b2, hsz, hB⟩ := hrel
   by_cases hlt : 2 * k < s.size
   ·have hlt1 : 2 * k + 1 < s.size := by have := HN.out; omega
    obtain ⟨i, hi⟩ : ∃ i, 2 * k = i := ⟨_, rfl⟩
    rw [hi] at hk hlt hlt1 ⊢
    obtain ⟨c, hc⟩ : ∃ c, (s[i]'hlt).toNat = c := ⟨_, rfl⟩
    obtain ⟨d, hd⟩ : ∃ d, (s[i + 1]'hlt1).toNat = d := ⟨_, rfl⟩
    have hc2 : c < 256 := by rw [<- hc]; exact (s[i]'hlt).toNat_lt
    have hd2 : d < 256 := by rw [<- hd]; exact (s[i + 1]'hlt1).toNat_lt
    have HC : Hid ((bts s).getD i 0 = c) := Lib.hid (by rw [<- hc, byte_eq hlt]; rfl)
    have HD : Hid ((bts s).getD (i + 1) 0 = d) := Lib.hid (by rw [<- hd, byte_eq hlt1]; rfl)
    have CA := Lib.hid (xhalf_is c hc2)
    have CB := Lib.hid (xhalf_is d hd2)
    obtain ⟨x, hxe⟩ : ∃ x, Lx.halfI c = x := ⟨_, rfl⟩
    obtain ⟨y, hye⟩ : ∃ y, Lx.halfI d = y := ⟨_, rfl⟩
    have WX := Lib.hid (Lx.halfI_cases c)
    have WY := Lib.hid (Lx.halfI_cases d)
    rw [hxe] at CA WX
    rw [hye] at CB WY
    have HI := Lib.hid hi
    have k1 : IntKind.i64.wrap ((i : Int) + 1) = (i : Int) + 1 := IntWalk.i64_in _ (by omega)
    have k2 : (0 : Int) <= (i : Int) + 1 := by omega
    have k3 : ((i : Int) + 1).toNat = i + 1 := by omega
    clear hxe hye hi
    go_wp2
    go_quiet (first | with_reducible exact Calls.quiet_of_same (CA.out _) | with_reducible exact Calls.quiet_of_same (CB.out _) | ((trace_state; fail)))
    clear k1 k2 k3
    rcases WX.out with ⟨hx1, rfl⟩ | ⟨xn, hx1, rfl, hx2⟩
    ·have HL : Hid (Lx.hexL (bts s) = none) := Lib.hid (hx.out.bad (by rw [HI.out, bts_length]; omega) (.inl (by rw [HI.out, HC.out]; exact hx1)))
     clear hx1
     go_wp2_with (refine wl_storeA (b2.drewN _) rfl _ _ rfl rfl rfl (by kernel_rfl) rfl rfl rfl (fun W8 b8 hg => ?_); have hB8 := below_far (below_drewN hB _) (below_drewN hB _).size hB1.size hg; clear hg)
     exact bodyPost_ret (res_cell_tmp rfl b8 (by kernel_rfl) rfl rfl) rfl ⟨by unfold Lx.hexV; rw [HL.out]; rfl, hB8⟩
    ·rcases WY.out with ⟨hy1, rfl⟩ | ⟨yn, hy1, rfl, hy2⟩
     ·have HL : Hid (Lx.hexL (bts s) = none) := Lib.hid (hx.out.bad (by rw [HI.out, bts_length]; omega) (.inr (by rw [HI.out, HD.out]; exact hy1)))
      clear hx1 hy1
      go_wp2_with (refine wl_storeA (b2.drewN _) rfl _ _ rfl rfl rfl (by kernel_rfl) rfl rfl rfl (fun W8 b8 hg => ?_); have hB8 := below_far (below_drewN hB _) (below_drewN hB _).size hB1.size hg; clear hg)
      exact bodyPost_ret (res_cell_tmp rfl b8 (by kernel_rfl) rfl rfl) rfl ⟨by unfold Lx.hexV; rw [HL.out]; rfl, hB8⟩
     ·have HX : Hid (Lx.Hexed (bts s) (k + 1) (o ++ [16 * xn + yn])) := Lib.hid (hx.out.next (by rw [HI.out, bts_length]; omega) (by rw [HI.out, HC.out]; exact hx1) (by rw [HI.out, HD.out]; exact hy1))
      clear hx1 hy1
      go_wp2_with (go_at_call 67; refine (writeByte_any W2.heap.size W2.heap.size _ _ _ (builder_below hbl (below_drewN (Below.refl _ wr) _)) (by rw [u8s_length]; omega) (by simpa using hsz)).mono ?_; rintro e w1 ⟨rfl, hbl1, hb1⟩)
      have HE := Lib.hid (or_hex xn yn hx2 hy2)
      go_roundw
      case rel => exact ⟨k + 1, o ++ [16 * xn + yn], by have := HI.out; omega, by have := HI.out; congr 1; omega, HX, by have := HX.out.2.1; have := HI.out; omega, by rw [HE.out] at hbl1; rw [u8s_append]; exact .inr hbl1, (hb1.block _ hlt2).trans (b2.drewN _), Nat.le_trans hsz (Nat.le_trans (below_drewN (Below.refl 0 wr) _).size hb1.size), (below_drewN hB _).trans (hb1.mono hw2)⟩
      case measure => simp [intOf]; omega
   ·have HO : Hid (Lx.hexL (bts s) = some o) := Lib.hid (hx.out.done (by rw [bts_length]; omega))
    have hb256 := hx.out.2.2
    have hbl' : Lib.IsBuilder 99 5 W2.heap.size W2.heap.size (Lib.byteCells (o.map UInt8.ofNat)) wr := by rw [byteCells_u8 _ hb256]; exact hbl
    clear hbl hx hb256
    go_wp2_with (first
     | (go_at_call 68; refine (Tryz.Builder_String_any W2.heap.size W2.heap.size _ _ hbl' hsz).mono ?_; rintro e w3 ⟨rfl, hb⟩; replace hB := hB.trans (hb.mono hw2); replace b2 := (hb.block _ hlt2).trans b2; clear hb)
     | (refine wl_storeA b2 rfl _ _ rfl rfl rfl (by kernel_rfl) rfl rfl rfl (fun W8 b8 hg => ?_); have hB8 := below_far hB hB.size hB1.size hg; clear hg))
    exact bodyPost_ret (res_cell_tmp rfl b8 (by kernel_rfl) rfl rfl) rfl ⟨by unfold Lx.hexV; rw [HO.out]; rfl, hB8⟩
 ·have hm : Int.tmod (s.size : Int) 2 = 1 := by rw [Int.tmod_eq_emod_of_nonneg (by omega)]; omega
  have HR : Hid (Lx.hexL (bts s) = none) := Lib.hid (Lx.hexL_odd n _ (by rw [bts_length]; exact hn))
  clear hn
  go_enter Tryz.func254, Tryz.ntmps254
  go_wp2_with (first
   | (refine wl_boxA rfl _ rfl rfl (fun W1 b1 hb => ?_); have hB1 := hb; clear hb)
   | (refine wl_allocA rfl zero_val rfl (fun W2 b2 hb => ?_); have hB := below_step hB1 hb; clear hb)
   | (refine wl_storeA b2 rfl _ _ rfl rfl rfl (by kernel_rfl) rfl rfl rfl (fun W8 b8 hg => ?_); have hB8 := below_far hB hB.size hB1.size hg; clear hg))
  exact bodyPost_ret (res_cell_tmp rfl b8 (by kernel_rfl) rfl rfl) rfl ⟨by unfold Lx.hexV; rw [HR.out]; rfl, hB8⟩
end Go.Proofs.YthoojcdjjecogaaGreatDoor
namespace Go.Proofs.YthoojcdjjecogaaGreatDoor
open Go Go.RowKit

def BdR (R b : Nat) (bs : List Value) (w : World) : Prop := b < R /\ R <= w.heap.size /\ ∃ p v, (p = .pointer none \/ p = .pointer (some ⟨b, 0, none⟩)) /\ w.heap[b]? = some (.cells #[p, v] 99 (0, 0)) /\ w.ownsRow R 5 1 v bs.length bs
structure Far (R b : Nat) (w w' : World) : Prop where
 os : w'.os = w.os
 tape : w'.tape = w.tape
 output : w'.output = w.output
 size : w.heap.size <= w'.heap.size
 block : ∀ k, k < R -> k ≠ b -> w'.heap[k]? = w.heap[k]?
theorem Far.below {R b B : Nat} {w w' : World} (h : Far R b w w') (h1 : B <= R) (h2 : B <= b) : Below B w w' := ⟨h.os, h.tape, h.output, h.size, fun k hk => h.block k (by omega) (by omega)⟩
theorem own_low {w : World} {R S : Nat} {e : TypeId} {v : Value} {n : Nat} {xs : List Value} (h : w.ownsRow R e 1 v n xs) (hS : S <= R) : w.ownsRow S e 1 v n xs :=
 ⟨h.1, h.2.imp id fun ⟨g, cap, cur, h1, h2, h3⟩ => ⟨g, cap, cur, h1, Nat.le_trans hS h2, h3⟩⟩
theorem own_not {w : World} {R b : Nat} {e : TypeId} {v : Value} {n : Nat} {xs : List Value} (h : w.ownsRow R e 1 v n xs) (hb : b < R) : v.ownBlock ≠ some b := by
 rcases h.2 with ⟨rfl, _⟩ | ⟨g, cap, cur, rfl, h1, _⟩
 ·simp [Value.ownBlock]
 ·simp [Value.ownBlock]; omega
theorem BdR.is {R b B : Nat} {bs : List Value} {w : World} (h : BdR R b bs w) (hB : B <= b) : Lib.IsBuilder 99 5 B b bs w := by
 obtain ⟨hb, _, p, v, hp, hh, hown⟩ := h
 have h2 := own_low hown (show B <= R by omega)
 have hne := own_not hown hb
 rcases hp with rfl | rfl
 ·exact .inl ⟨hB, v, hh, h2, hne⟩
 ·exact .inr ⟨hB, v, hh, h2, hne⟩
theorem BdR.keep {R b : Nat} {bs : List Value} {w w' : World} (h : BdR R b bs w) (hb : Below w.heap.size w w') : BdR R b bs w' := by
 obtain ⟨h1, h2, p, v, hp, hh, hown⟩ := h
 exact ⟨h1, Nat.le_trans h2 hb.size, p, v, hp, (hb.block b (by omega)).trans hh, own_below hown hb⟩
theorem writeByte_far (R b : Nat) (bs : List Value) (c : Int) (w : World) (h : BdR R b bs w) (hlen : bs.length + 1 <= 140737488355328) :
  Calls Tryz.prog 67 #[.pointer (some ⟨b, 0, none⟩), .int .u8 c] w fun e w' => e = .returned .nilIface /\ BdR R b (bs ++ [.int .u8 c]) w' /\ Far R b w w' := by
 obtain ⟨i0, hi, hz0, hz1, hz2⟩ := info_parts Tryz.info5
 have hB := h.is (Nat.le_refl b)
 obtain ⟨hbR, hRw, p, v, hp, hh, hown⟩ := h
 have hne := own_not hown hbR
 go_enter Tryz.func67, Tryz.ntmps67
 have hcopy : Calls Tryz.prog 104 #[.pointer (some ⟨b, 0, none⟩)] w fun e w' => e = .returned (.tuple #[]) /\ w'.heap[b]? = some (.cells #[.pointer (some ⟨b, 0, none⟩), v] 99 (0, 0)) /\ w'.ownsRow R 5 1 v bs.length bs /\ Far R b w w' /\ w'.heap.size = w.heap.size := by
  rcases hp with rfl | rfl
  ·have hat : Lib.BuilderAt 99 5 b b (.pointer none) bs w := ⟨Nat.le_refl _, v, hh, own_low hown (by omega), hne⟩
   refine (copy_fresh b w hat.cell0 hat.shape hat.frozen0).mono ?_
   rintro e w' ⟨rfl, rfl⟩
   refine ⟨rfl, by simp [World.setCell, Array.getElem?_modify, hh], hown.kept (row := some b) ⟨rfl, rfl, rfl, by simp [World.setCell], fun k _ hk => Below.heap_setCell _ _ _ _ (fun e => hk (by simp [e]))⟩ (.inr hne), ⟨rfl, rfl, rfl, by simp [World.setCell], fun k _ hk => Below.heap_setCell _ _ _ _ hk⟩, by simp [World.setCell]⟩
  ·refine (copy_used b w (by simp [World.cell?, hh])).mono ?_
   rintro e w' ⟨rfl, rfl⟩
   exact ⟨rfl, hh, hown, ⟨rfl, rfl, rfl, Nat.le_refl _, fun _ _ _ => rfl⟩, rfl⟩
 clear hh hown hB
 go_wp2_with (go_at_call 104; refine hcopy.mono ?_)
 rintro e w1 ⟨rfl, hbk, hown, hf1, hsz1⟩
 have c0 : w1.cell? ⟨b, 0, none⟩ = some (.pointer (some ⟨b, 0, none⟩)) := by rw [Lib.cell_of_heap hbk]; rfl
 have c1 : w1.cell? ⟨b, 1, none⟩ = some v := by rw [Lib.cell_of_heap hbk]; rfl
 have hR1 : R <= w1.heap.size := by omega
 clear hsz1
 go_wp2_with (at_builtin; refine wpList_append_own _ rfl _ _ 79 rfl R 5 i0 (.int .u8 0) 1 1 Tryz.underlying79 hi hz0 hz1 hz2 rfl (by decide) _ _ _ rfl (hown.alloc _) ⟨w1.heap.size, 0, none⟩ 1 1 [.int .u8 c] rfl rfl ?c1 ?c2 ?c3 ?c4 ?c5 ?_)
 case c1 =>
  intro j u hj
  match j, hj with
  | 0, hj => simp at hj; subst hj; simp [Addr.add]
 case c2 => intro u hu; simp at hu; subst hu; rfl
 case c3 => unfold maxLen; omega
 case c4 => omega
 case c5 => simp; omega
 intro v' w2 hown' hgrow _
 have hlt : b < w1.heap.size := (Array.getElem?_eq_some_iff.1 hbk).1
 have hb2 : w2.heap[b]? = some (.cells #[.pointer (some ⟨b, 0, none⟩), v] 99 (0, 0)) := by
  rw [hgrow.block b (by simp; omega) (fun e => hne e.symm), Lib.alloc_old w1 _ b hlt]
  exact hbk
 have d0 : w2.cell? ⟨b, 0, none⟩ = some (.pointer (some ⟨b, 0, none⟩)) := by rw [Lib.cell_of_heap hb2]; rfl
 have d1 : w2.cell? ⟨b, 1, none⟩ = some v := by rw [Lib.cell_of_heap hb2]; rfl
 have f1 : w2.frozen? ⟨b, 1, none⟩ = false := Lib.frozen_of_heap hb2 1
 obtain ⟨g, cap, rfl⟩ : ∃ g cap, v' = .slice (some ⟨g, 0, none⟩) (bs.length + 1) cap := by
  rcases hown'.2 with ⟨_, h0⟩ | ⟨g, cap, cur, hv, _⟩
  ·omega
  ·exact ⟨g, cap, hv⟩
 go_wp2
 go_ret
 have hne' := own_not hown' hbR
 have hsz : w1.heap.size <= w2.heap.size := by have := hgrow.size; simp at this; omega
 have hfar : Far R b w w2 := ⟨hgrow.os.trans hf1.os, hgrow.tape.trans hf1.tape, hgrow.output.trans hf1.output, Nat.le_trans hf1.size hsz, fun k hk hkb => by
  rw [hgrow.block k (by simp; omega) (fun e => own_not hown hk e.symm), Lib.alloc_old w1 _ k (by omega)]
  exact hf1.block k hk hkb⟩
 refine ⟨rfl, ⟨hbR, by simp [World.setCell]; omega, .pointer (some ⟨b, 0, none⟩), .slice (some ⟨g, 0, none⟩) (bs.length + 1) cap, .inr rfl, by simp [World.setCell, Array.getElem?_modify, hb2], ?_⟩, ⟨hfar.os, hfar.tape, hfar.output, by simp [World.setCell]; exact hfar.size, fun k hk hkb => (Below.heap_setCell _ _ _ _ hkb).trans (hfar.block k hk hkb)⟩⟩
 have hl : (bs ++ [Value.int .u8 c]).length = bs.length + 1 := by simp
 rw [hl]
 exact hown'.kept (row := some b) ⟨rfl, rfl, rfl, by simp [World.setCell], fun k _ hk => Below.heap_setCell _ _ _ _ (fun e => hk (by simp [e]))⟩ (.inr hne')
namespace Lx
def dg (n : Nat) : Nat := if n < 10 then 48 + n else 55 + n
def hexT (l : List Nat) : List Nat := l.flatMap fun c => [dg (c / 16), dg (c % 16)]
theorem hexT_succ {l : List Nat} {k : Nat} (h : k < l.length) : hexT (l.take (k + 1)) = hexT (l.take k) ++ [dg (l[k] / 16)] ++ [dg (l[k] % 16)] := by
 unfold hexT
 rw [List.take_succ_eq_append_getElem h, List.flatMap_append]
 simp
theorem hexT_length (l : List Nat) : (hexT l).length = 2 * l.length := by
 induction l with
 | nil => rfl
 | cons a l ih => simp only [hexT, List.flatMap_cons, List.length_append, List.length_cons, List.length_nil] at ih ⊢; omega
theorem hexT_lt {l : List Nat} (h : ∀ c ∈ l, c < 256) : ∀ c ∈ hexT l, c < 256 := by
 intro c hc
 unfold hexT at hc
 obtain ⟨d, hd, hc⟩ := List.mem_flatMap.1 hc
 have := h d hd
 simp only [List.mem_cons, List.not_mem_nil, or_false] at hc
 unfold dg at hc
 rcases hc with rfl | rfl <;> split <;> omega
end Lx
theorem dg_at (n : Nat) (h : n < (⟨#[48, 49, 50, 51, 52, 53, 54, 55, 56, 57, 65, 66, 67, 68, 69, 70]⟩ : ByteArray).size) : ((⟨#[48, 49, 50, 51, 52, 53, 54, 55, 56, 57, 65, 66, 67, 68, 69, 70]⟩ : ByteArray)[n]'h).toNat = Lx.dg n := by
 have hn : n < 16 := h
 have key : ∀ n : Fin 16, ((⟨#[48, 49, 50, 51, 52, 53, 54, 55, 56, 57, 65, 66, 67, 68, 69, 70]⟩ : ByteArray)[n.val]'(n.isLt)).toNat = Lx.dg n.val := by decide +kernel
 exact key ⟨n, hn⟩
theorem Row8.heap {W W' : World} {B cap : Nat} {l : List Nat} (h : Row8 W B cap l) (hb : W'.heap[B]? = W.heap[B]?) : Row8 W' B cap l := by
 obtain ⟨cur, h1, h2⟩ := h
 exact ⟨cur, hb.trans h1, h2⟩
theorem xtext5_is (t : ByteArray) (ht : t.size <= 100000) (b n : Bool) (s : ByteArray) (S : Int) (m : Mo) (l : Value) (w : World) : Calls Tryz.prog 31 #[(⟨5, t, b, n, s, S, m⟩ : Vl).val l] w fun e w' => e = .returned (.string (str (Lx.hexT (bts t)))) /\ Below w.heap.size w w' := by
 obtain ⟨cs, hcs⟩ : ∃ cs, ((⟨5, t, b, n, s, S, m⟩ : Vl).list ++ [l]).toArray = cs := ⟨_, rfl⟩
 have hc0 : cs[0]? = some (.int .i64 5) := by rw [<- hcs]; rfl
 have hc1 : cs[1]? = some (.string t) := by rw [<- hcs]; rfl
 unfold Vl.val
 rw [hcs]
 clear hcs
 go_enter Tryz.func31, Tryz.ntmps31
 go_upto_region 14 with (first
  | (refine wl_boxA rfl _ rfl rfl (fun W1 b1 hb => ?_); have hB1 := hb; clear hb)
  | (refine wl_loadC b1 rfl (by kernel_rfl) _ rfl (j := 0) (v := .int .i64 5) rfl hc0 ?_))
 obtain ⟨cap, w3, hcv, hrow, hb3⟩ := bytes_row (W1.alloc (.cells #[.pointer none, .slice none 0 0] 99)) t
 have b2 := b1.old (.cells #[.pointer none, .slice none 0 0] 99)
 go_wp2_with (refine wl_loadC b2 rfl (by kernel_rfl) _ rfl (j := 1) (v := .string t) rfl hc1 ?_)
 have hg2 : (W1.alloc (.cells #[.pointer none, .slice none 0 0] 99)).heap.size = W1.heap.size + 1 := by simp
 have hb0 : W1.heap.size < W1.heap.size + 1 + 1 := by omega
 have hR3 : W1.heap.size + 1 + 1 <= w3.heap.size := by have := hrow.lt; rw [hg2] at this; omega
 have hbd0 : BdR (W1.heap.size + 1 + 1) W1.heap.size (u8s []) w3 := ⟨hb0, hR3, _, _, .inl rfl, (hb3.block _ (by rw [hg2]; omega)).trans (World.alloc_heap_new W1 _), ⟨rfl, .inl ⟨rfl, rfl⟩⟩⟩
 have hB3 : Below w.heap.size w w3 := below_step (hB1.alloc hB1.size _) hb3
 have hw1 := hB1.size
 rw [hg2] at hrow hcv
 clear hb3 b1 b2 hB1 hc0 hc1
 go_loopw [43] (fun i wr => ∃ k : Nat, k <= t.size /\ i = .int .i64 (k : Int) /\ BdR (W1.heap.size + 1 + 1) W1.heap.size (u8s (Lx.hexT ((bts t).take k))) wr /\ Row8 wr (W1.heap.size + 1) cap (bts t) /\ Below w.heap.size w wr) (fun i _ => t.size - (intOf i).toNat)
 case atStart => exact ⟨0, Nat.zero_le _, rfl, hbd0, hrow, hB3⟩
 case round =>
  clear hbd0 hrow hB3 hcv
  obtain ⟨k, hk, rfl, hbd, hr, hB⟩ := hrel
  by_cases hlt : k < t.size
  ·have hlb : k < (bts t).length := by rw [bts_length]; exact hlt
   obtain ⟨c, hc⟩ : ∃ c, (bts t)[k]'hlb = c := ⟨_, rfl⟩
   have hc256 : c < 256 := by rw [<- hc]; exact bts_lt t _ (List.getElem_mem _)
   have hcell := hr.at (j := k) hlb
   rw [List.getD_eq_getElem?_getD, List.getElem?_eq_getElem hlb, Option.getD_some, hc] at hcell
   have HS := Lib.hid (Lx.hexT_succ hlb)
   rw [hc] at HS
   have hll := Lib.hid (Lx.hexT_length ((bts t).take k))
   have hll2 : (u8s (Lx.hexT ((bts t).take k))).length <= 200000 := by rw [u8s_length, hll.out, List.length_take]; omega
   have tok1 : True := trivial
   clear hc
   go_wp2_with (first
    | (go_at_call 67; have _t := tok1; refine (writeByte_far _ _ _ _ _ hbd (by omega)).mono ?_; rintro e w5 ⟨rfl, hbd1, hf1⟩; clear tok1 _t)
    | (go_at_call 67; refine (writeByte_far _ _ _ _ _ hbd1 (by rw [List.length_append]; simp only [List.length_cons, List.length_nil]; omega)).mono ?_; rintro e w6 ⟨rfl, hbd2, hf2⟩))
   simp only [dg_at] at hbd2
   go_roundw
   case rel => exact ⟨k + 1, by omega, by simp, by rw [HS.out, u8s_append, u8s_append]; exact hbd2, hr.heap ((hf2.block _ (by omega) (by omega)).trans (hf1.block _ (by omega) (by omega))), hB.trans ((hf1.below (by omega) hw1).trans (hf2.below (by omega) hw1))⟩
   case measure => simp [intOf]; omega
  ·have hall : (bts t).take k = bts t := List.take_of_length_le (by rw [bts_length]; omega)
   rw [hall] at hbd
   have h256 := Lx.hexT_lt (bts_lt t)
   have hbl : Lib.IsBuilder 99 5 W1.heap.size W1.heap.size (Lib.byteCells ((Lx.hexT (bts t)).map UInt8.ofNat)) wr := by rw [byteCells_u8 _ h256]; exact hbd.is (Nat.le_refl _)
   have hsz : W1.heap.size <= wr.heap.size := by have := hbd.2.1; omega
   clear hall h256 hbd
   go_wp2_with (go_at_call 68; refine (Tryz.Builder_String_any W1.heap.size W1.heap.size _ _ hbl hsz).mono ?_; rintro e w7 ⟨rfl, hb7⟩)
   go_ret
   go_light
   exact ⟨rfl, hB.trans (hb7.mono hw1)⟩
end Go.Proofs.YthoojcdjjecogaaGreatDoor
namespace Go.Proofs.YthoojcdjjecogaaGreatDoor
open Go Go.RowKit Go.Ex
namespace Lx
def kindB (v : Vl) (n : Nat) (lc : Bool) : Bool := if v.k = 1 then decide (wrongI v.t = -1) else if v.k = 2 \/ v.k = 5 then true else if v.k = 3 then okB v.n v.s v.S else if v.k = 4 then Mo.okB v.m else if v.k = 6 then decide (n <= 300) && !lc else false
def okV (v : Vl) (n : Nat) (lc : Bool) : Bool := kindB v n lc && (bareB v && (decide (v.k = 6) || decide (n = 0)))
end Lx
structure Vl.Sz (v : Vl) : Prop where
 t : v.t.size <= 100000
 s : v.s.size <= 1000000
 m : v.m.s.size <= 1000000
theorem vE_one (v : Vl) (l : Value) (n : Nat) (h : SliceN l n) (r : List Value) (hr : r.all Value.oneCell' = true) : (vE v l ++ r).all Value.oneCell' = true := by
 obtain ⟨a, c, rfl⟩ := h
 rw [List.all_append, hr]
 rfl
theorem vE_at (v : Vl) (l : Value) (M : Int) (r : List Value) : ∀ i, i < 18 -> envE (.int .i64 M :: (vE v l ++ r)) (1 + i) = (vE v l).getD i (.bool false) := by
 intro i hi
 show (Value.int .i64 M :: (vE v l ++ r)).getD (1 + i) _ = _
 rw [Nat.add_comm, List.getD_cons_succ, List.getD_eq_getElem?_getD, List.getD_eq_getElem?_getD, List.getElem?_append_left (by simp [vE, Vl.list, Mo.list]; omega)]
theorem isSl_ok {E : Nat -> Value} {l : Value} {n i : Nat} (h : SliceN l n) (hE : E i = l) : X.evB E (.isSl i) = true := by
 obtain ⟨a, c, rfl⟩ := h
 simp only [X.evB, hE]
theorem slen_ok {E : Nat -> Value} {l : Value} {n i : Nat} (h : SliceN l n) (hE : E i = l) : X.evI E (.slen i) = (n : Int) := by
 obtain ⟨a, c, rfl⟩ := h
 simp only [X.evI, hE]
theorem tree_av {calls : List CallX} {env : List Value} {n : Nat} {f : FuncId} {args : List V} {F : Fx} {t : Tree} {av : Array Value} {v : Value} {w : World} (hr : chk (runTr Tryz.prog nG (fun _ => none) (fun _ => true) moT calls n f args hN) t F = true) (hc : AllX Tryz.prog (envE (.int .i64 0 :: env)) (fun _ => True) calls) (hone : env.all Value.oneCell' = true) (hF : F.Ok (envE (.int .i64 0 :: env)))
  (hargs : V.oks nG args = true) (hav : (V.dens L0 (envE (.int .i64 0 :: env)) args).toArray = av) (hv : (t.at (envE (.int .i64 0 :: env))).den L0 (envE (.int .i64 0 :: env)) = v) : Calls Tryz.prog f av w fun e w' => e = .returned v /\ Below w.heap.size w w' := by
 rw [<- hv, <- hav]
 exact tree_law (envE_one (by rw [List.all_cons, hone]; rfl)) (by kernel_rfl) noExt hF moT_ok hc (fun _ _ _ _ _ => trivial) hr (start_none _ _) hargs
def barV (v : Vl) (n : Nat) : Bool := Lx.bareB v && (decide (v.k = 6) || decide (n = 0))
theorem xbare_is (v : Vl) (l : Value) (n : Nat) (hl : SliceN l n) (w : World) : Calls Tryz.prog 38 #[v.val l] w fun e w' => e = .returned (.bool (barV v n)) /\ Below w.heap.size w w' := by
 have hone := vE_one v l n hl [] rfl
 rw [List.append_nil] at hone
 have hat := vE_at v l 0 []
 rw [List.append_nil] at hat
 have fin : ∀ k, (v.k = k \/ (k = 0 /\ v.k ≠ 1 /\ v.k ≠ 2 /\ v.k ≠ 3 /\ v.k ≠ 4 /\ v.k ≠ 5 /\ v.k ≠ 6)) -> ((chT (bcK 1 k) yesT noT).at (envE (.int .i64 0 :: vE v l))).den L0 (envE (.int .i64 0 :: vE v l)) = .bool (barV v n) := fun k hk => by
  rw [chT_at, bcK_at v l n hl (envE (.int .i64 0 :: vE v l)) 1 hat k hk]
  unfold barV
  cases (Lx.bareB v && (decide (v.k = 6) || decide (n = 0))) <;> rfl
 have hs : X.evB (envE (.int .i64 0 :: vE v l)) (.isSl 18) = true := isSl_ok hl rfl
 have one : ∀ k, v.k = k -> k ∈ [(1 : Int), 2, 3, 4, 5, 6] -> Calls Tryz.prog 38 #[v.val l] w fun e w' => e = .returned (.bool (barV v n)) /\ Below w.heap.size w w' := fun k hk hm =>
  tree_av (env := vE v l) (run_bare k hm) trivial hone ⟨hs, trivial⟩ rfl (by rw [<- hk]; rfl) (fin k (.inl hk))
 by_cases h1 : v.k = 1
 ·exact one 1 h1 (by decide)
 by_cases h2 : v.k = 2
 ·exact one 2 h2 (by decide)
 by_cases h3 : v.k = 3
 ·exact one 3 h3 (by decide)
 by_cases h4 : v.k = 4
 ·exact one 4 h4 (by decide)
 by_cases h5 : v.k = 5
 ·exact one 5 h5 (by decide)
 by_cases h6 : v.k = 6
 ·exact one 6 h6 (by decide)
 exact tree_av (env := vE v l) run_bare0 trivial hone ⟨decide_eq_false h1, decide_eq_false h5, decide_eq_false h2, decide_eq_false h3, decide_eq_false h4, decide_eq_false h6, hs, trivial⟩ rfl rfl (fin 0 (.inr ⟨rfl, h1, h2, h3, h4, h5, h6⟩))
def decP (t : ByteArray) : Int := if wrongI t = -1 then 0 else wrongI t
def decI (t : ByteArray) : Int := if wrongI t = -1 then 0 else 6
theorem decI_zero (t : ByteArray) : decide (decI t = 0) = decide (wrongI t = -1) := by
 unfold decI
 by_cases h : wrongI t = -1
 ·rw [if_pos h, decide_eq_true h]; rfl
 ·rw [if_neg h, decide_eq_false h]; rfl
theorem dec_post {t : ByteArray} {e : Ending} {w w' : World} {Q : Value -> Prop} (h : ((∃ v, wrongI t = -1 /\ e = .returned (.tuple #[v, .int .i64 0, .int .i64 0]) /\ Q v) \/ (0 <= wrongI t /\ e = .returned (.tuple #[.slice none 0 0, .int .i64 (wrongI t), .int .i64 6]))) /\ Below w.heap.size w w') :
  (∃ v, e = .returned (.tuple #[v, .int .i64 (decP t), .int .i64 (decI t)])) /\ Below w.heap.size w w' := by
 obtain ⟨⟨v, h1, rfl, _⟩ | ⟨h1, rfl⟩, hb⟩ := h
 ·exact ⟨⟨v, by unfold decP decI; rw [if_pos h1, if_pos h1]⟩, hb⟩
 ·have hn : wrongI t ≠ -1 := by omega
  exact ⟨⟨_, by unfold decP decI; rw [if_neg hn, if_neg hn]⟩, hb⟩
theorem Vars.rng {M : Int} {w : World} (h : Vars M w) : Rng w := by
 obtain ⟨lo, hi, h0, _⟩ := h.row3
 exact ⟨_, _, h0⟩
theorem pdec_ok {E : Nat -> Value} {i p q : Nat} {t : ByteArray} {M : Int} (pre : Fx) (ht : Fx.Ok E pre -> t.size <= 1000000) (h1 : E i = .string t) (h2 : E p = .int .i64 (decP t)) (h3 : E q = .int .i64 (decI t)) : CallX.Ok Tryz.prog E (Vars M) ⟨24, [xs i], pre, .tup [.junk 0, xi p, xi q]⟩ := by
 refine ⟨rfl, fk, fun hp L w hV => ?_⟩
 have e1 : V.dens L E [xs i] = [.string t] := by simp only [V.dens, xs, V.den, X.evS, h1]
 show Calls _ _ (V.dens L E [xs i]).toArray w fun x w' => (∃ z : Nat -> Value, x = .returned ((V.tup [.junk 0, xi p, xi q]).den ⟨L.ρ, L.κ, z⟩ E)) /\ Below w.heap.size w w'
 rw [e1]
 refine (f24_any t (ht hp) w hV.rng).mono fun e w' h => ?_
 obtain ⟨⟨v, rfl⟩, hb⟩ := dec_post h
 refine ⟨⟨fun _ => v, ?_⟩, hb⟩
 simp only [V.den, V.dens, xi, X.evI, h2, h3]
def ckY : Tree := .node (.at 24) (.leaf (it 0)) (.leaf (it 2))
def ckT : Tree := .node (.eq (.at 1) (.int 1)) (.node (.eq (.at 20) (.int 0)) ckY (.leaf (it 2))) (.node (.eq (.at 1) (.int 2)) ckY (.node (.eq (.at 1) (.int 5)) ckY (.node (.eq (.at 1) (.int 3)) (.node (.eq (.at 21) (.int 0)) ckY (.leaf (it 2)))
 (.node (.eq (.at 1) (.int 4)) (.node (.eq (.at 22) (.int 0)) ckY (.leaf (it 2))) (.node (.eq (.at 1) (.int 6)) (.node (.lt (.int 300) (.slen 18)) (.leaf (it 2)) (.node (.at 23) (.leaf (it 2)) ckY)) (.leaf (it 2)))))))
def ckX : List CallX := [⟨24, [xs 2], [], .tup [.junk 0, xi 19, xi 20]⟩, ⟨34, [deV 4], [], xi 21⟩, ⟨35, [moV 7], [], xi 22⟩, ⟨36, [.atom 18, .fn 37 []], [(.eq (.at 1) (.int 6), true), (.lt (.int 300) (.slen 18), false)], xb 23⟩, ⟨38, [vaV 1 (.atom 18)], [], xb 24⟩]
theorem run_check9 : chk (runTr Tryz.prog nG (fun _ => none) gd moT ckX 100 17 [vaV 1 (.atom 18)] h0) ckT [(.isSl 18, true)] = true := by decide +kernel
def ckE (v : Vl) (l : Value) (n : Nat) (lc : Bool) : List Value := vE v l ++ [.int .i64 (decP v.t), .int .i64 (decI v.t), .int .i64 (ckI v.n v.s v.S), .int .i64 (bif Mo.okB v.m then 0 else 2), .bool lc, .bool (barV v n)]
def ListOk (w0 : World) (M : Int) (v : Vl) (l : Value) (n : Nat) (lc : Bool) : Prop := v.k = 6 -> n <= 300 -> ∀ w, VK M w0 w -> Calls Tryz.prog 36 #[l, .func (.func 37) #[] #[]] w fun e w' => e = .returned (.bool lc) /\ Below w.heap.size w w'
theorem listOk_no {w0 : World} {M : Int} {v : Vl} {l : Value} {n : Nat} {lc : Bool} (h : v.k ≠ 6) : ListOk w0 M v l n lc := fun e => absurd e h
theorem ListOk.next {w0 w : World} {M : Int} {v : Vl} {l : Value} {n : Nat} {lc : Bool} (h : ListOk w0 M v l n lc) (hk : VK M w0 w) : ListOk w M v l n lc := fun h6 hn w' hw => h h6 hn w' ⟨hw.1, hk.2.trans hw.2⟩
theorem xcheck_is (v : Vl) (hv : v.Sz) (l : Value) (n : Nat) (hl : SliceN l n) (lc : Bool) (w : World) (M : Int) (hlc : ListOk w M v l n lc) (hV : Vars M w) : Calls Tryz.prog 17 #[v.val l] w fun e w' => e = .returned (.int .i64 (bif Lx.okV v n lc then 0 else 2)) /\ Below w.heap.size w w' := by
 have hsl : ∀ r, X.evB (envE (.int .i64 M :: (vE v l ++ r))) (.isSl 18) = true := fun r => isSl_ok hl rfl
 have hln : X.evI (envE (.int .i64 M :: ckE v l n lc)) (.slen 18) = (n : Int) := slen_ok hl rfl
 refine tree_rk (env := ckE v l n lc) run_check9 ⟨okX_vk (pdec_ok [] (fun _ => by have := hv.t; omega) rfl rfl rfl),
  ⟨rfl, fk, fun _ L w _ => pcheck_r v.n v.s v.S hv.s _ rfl w⟩,
  ⟨rfl, fk, fun _ L w hV => pcheckm_is v.m hv.m w M hV.1⟩,
  ⟨rfl, fk, fun hp L w hV => ?_⟩,
  ⟨rfl, fk, fun _ L w _ => xbare_is v l n hl w⟩, trivial⟩ (vE_one v l n hl _ rfl) ⟨hsl _, trivial⟩ rfl rfl ?_ hV
 ·have k6 : v.k = 6 := of_decide_eq_true (show decide (v.k = 6) = true from hp.1)
  have k3 : decide ((300 : Int) < X.evI (envE (.int .i64 M :: ckE v l n lc)) (.slen 18)) = false := hp.2.1
  rw [hln] at k3
  have := of_decide_eq_false k3
  exact hlc k6 (by omega) w hV
 ·have e : ckT.at (envE (.int .i64 M :: ckE v l n lc)) = bif decide (v.k = 1) then bif decide (decI v.t = 0) then bif barV v n then it 0 else it 2 else it 2 else bif decide (v.k = 2) then bif barV v n then it 0 else it 2 else bif decide (v.k = 5) then bif barV v n then it 0 else it 2 else
   bif decide (v.k = 3) then bif decide (ckI v.n v.s v.S = 0) then bif barV v n then it 0 else it 2 else it 2 else bif decide (v.k = 4) then bif decide ((bif Mo.okB v.m then (0 : Int) else 2) = 0) then bif barV v n then it 0 else it 2 else it 2 else
   bif decide (v.k = 6) then bif decide ((300 : Int) < X.evI (envE (.int .i64 M :: ckE v l n lc)) (.slen 18)) then it 2 else bif lc then it 2 else bif barV v n then it 0 else it 2 else it 2 := rfl
  rw [e, hln, decI_zero, ck_zero]
  unfold Lx.okV Lx.kindB
  show V.den L0 _ _ = Value.int .i64 (bif (_ && barV v n) then 0 else 2)
  have fin : ∀ b c : Bool, V.den L0 (envE (.int .i64 M :: ckE v l n lc)) (bif b then bif c then it 0 else it 2 else it 2) = Value.int .i64 (bif (b && c) then 0 else 2) := fun b c => by cases b <;> cases c <;> rfl
  by_cases h1 : v.k = 1
  ·rw [decide_eq_true h1, if_pos h1]; exact fin _ _
  rw [decide_eq_false h1, if_neg h1]
  by_cases h2 : v.k = 2
  ·rw [decide_eq_true h2, if_pos (.inl h2)]; exact fin true _
  rw [decide_eq_false h2]
  by_cases h5 : v.k = 5
  ·rw [decide_eq_true h5, if_pos (.inr h5)]; exact fin true _
  rw [decide_eq_false h5, if_neg (fun h => h.elim h2 h5)]
  by_cases h3 : v.k = 3
  ·rw [decide_eq_true h3, if_pos h3]; exact fin _ _
  rw [decide_eq_false h3, if_neg h3]
  by_cases h4 : v.k = 4
  ·rw [decide_eq_true h4, if_pos h4]; rw [show decide ((bif Mo.okB v.m then (0 : Int) else 2) = 0) = Mo.okB v.m by cases Mo.okB v.m <;> rfl]; exact fin _ _
  rw [decide_eq_false h4, if_neg h4]
  by_cases h6 : v.k = 6
  ·rw [decide_eq_true h6, if_pos h6]
   have hd : decide ((300 : Int) < (n : Int)) = !decide (n <= 300) := by
    rw [<- decide_not]; exact decide_eq_decide.2 (by omega)
   rw [hd]
   cases decide (n <= 300) <;> cases lc <;> cases barV v n <;> rfl
  ·rw [decide_eq_false h6, if_neg h6]; rfl
end Go.Proofs.YthoojcdjjecogaaGreatDoor
namespace Go.Proofs.YthoojcdjjecogaaGreatDoor
open Go Go.RowKit Go.Ex

def tenL : X × Bool := (.lt (.int 300) (.len (.at 2)), false)
def rdX (f : Nat) (a : V) (k : Int) : CallX := ⟨f, [a, xs 5], [(.eq (.at 1) (.int k), true), tenL], .tup [vaV 6 .nils, xi 23]⟩
def rdC : List CallX := [⟨24, [xs 2], [tenL], .tup [.junk 0, xi 3, xi 4]⟩, ⟨25, [xs 2, it 2], [(.eq (.at 4) (.int 0), true), tenL], .tup [xs 5, it 0]⟩,
 rdX 228 (.agg []) 2, rdX 229 (.agg []) 3, rdX 254 (.agg []) 7, rdX 238 (.agg [it 1]) 4, rdX 238 (.agg [it 2]) 5, rdX 238 (.agg [it 3]) 6]
def rdL (y : Tree) : Tree := .node (.lt (.int 300) (.len (.at 2))) (tZ (it 3)) (.node (.eq (.at 4) (.int 0)) y (tZ (it 6)))
def rdY : Tree := .leaf (.tup [vaV 6 .nils, xi 23])
def rdP : Tree := .leaf (.tup [vl (it 1) (xs 2) (.bool false) (.bool false) (.str []) (it 0) mo0 .nils, it 0])
def rdT : Tree := .node (.eq (.at 1) (.int 1)) (rdL rdP) (.node (.eq (.at 1) (.int 2)) (rdL rdY) (.node (.eq (.at 1) (.int 3)) (rdL rdY) (.node (.eq (.at 1) (.int 4)) (rdL rdY) (.node (.eq (.at 1) (.int 5)) (rdL rdY) (.node (.eq (.at 1) (.int 6)) (rdL rdY) (.node (.eq (.at 1) (.int 7)) (rdL rdY) (tZ (it 2))))))))
theorem run_read : chk (runTr Tryz.prog nG (fun _ => none) gd moT rdC 100 9 [xi 1, xs 2] h0) rdT [] = true := by decide +kernel
def sqS (t : ByteArray) : ByteArray := str (sqTwo (bts t))
theorem sqS_size (t : ByteArray) : (sqS t).size <= t.size := by unfold sqS; rw [str_size]; exact sqTwo_length t
def rdE (p : Int) (t : ByteArray) : List Value := [.int .i64 p, .string t, .int .i64 (decP t), .int .i64 (decI t), .string (sqS t)] ++ (Lx.readS p (sqS t)).1.list ++ [.int .i64 (Lx.readS p (sqS t)).2]
theorem rd_le {E : Nat -> Value} {t : ByteArray} (hE : E 2 = .string t) (h : X.evB E tenL.1 = tenL.2) : t.size <= 300 := by
 have h2 : decide ((300 : Int) < ((X.evS E (.at 2)).size : Int)) = false := h
 simp only [X.evS, hE] at h2
 have := of_decide_eq_false h2
 omega
theorem rdC_ok (p : Int) (t : ByteArray) (M : Int) : AllX Tryz.prog (envE (.int .i64 M :: rdE p t)) (Vars M) rdC := by
 have hE : envE (.int .i64 M :: rdE p t) 2 = .string t := rfl
 have one : ∀ (f : Nat) (a : V) (av : Value) (k : Int) (hf : ∃ fn, Tryz.prog.funcs[f]? = some fn /\ (fn.name == "runtime.NumGoroutine") = false /\ fn.body.isNone = false) (ha : ∀ L, a.den L (envE (.int .i64 M :: rdE p t)) = av),
   (∀ w, p = k -> t.size <= 300 -> Vars M w -> Calls Tryz.prog f #[av, .string (sqS t)] w fun e w' => e = .returned (tuV (Lx.readS p (sqS t))) /\ Below w.heap.size w w') -> CallX.Ok Tryz.prog (envE (.int .i64 M :: rdE p t)) (Vars M) (rdX f a k) := fun f a av k hf ha h => by
  refine ⟨rfl, hf, fun hp L w hV => ?_⟩
  have e1 : V.dens L (envE (.int .i64 M :: rdE p t)) [a, xs 5] = [av, .string (sqS t)] := by simp only [V.dens, ha]; rfl
  show Calls _ _ (V.dens L (envE (.int .i64 M :: rdE p t)) [a, xs 5]).toArray w fun q w' => q = .returned (tuV (Lx.readS p (sqS t))) /\ Below w.heap.size w w'
  rw [e1]
  exact h w (of_decide_eq_true (show decide (p = k) = true from hp.1)) (rd_le hE hp.2.1) hV
 refine ⟨pdec_ok _ (fun hp => by have := rd_le hE hp.1; omega) rfl rfl rfl, ⟨rfl, fk, fun hp L w hV => ?_⟩,
  one _ _ (.agg #[]) 2 fk (fun _ => rfl) fun w hk _ _ => ?_,
  one _ _ (.agg #[]) 3 fk (fun _ => rfl) fun w hk ht hV => ?_,
  one _ _ (.agg #[]) 7 fk (fun _ => rfl) fun w hk ht hV => ?_,
  one _ _ (.agg #[.int .i64 1]) 4 fk (fun _ => rfl) fun w hk ht hV => ?_,
  one _ _ (.agg #[.int .i64 2]) 5 fk (fun _ => rfl) fun w hk ht hV => ?_,
  one _ _ (.agg #[.int .i64 3]) 6 fk (fun _ => rfl) fun w hk ht hV => ?_, trivial⟩
 ·have h0 : decide (decI t = 0) = true := hp.1
  rw [decI_zero] at h0
  have ht := rd_le hE hp.2.1
  exact f22_2 t (by omega) w hV.rng M (by obtain ⟨lo, hi, h1, _⟩ := hV.row0; simp [World.cell?, h1]) (of_decide_eq_true h0)
 ·subst hk; exact xtruth_is (sqS t) w
 ·subst hk; have := sqS_size t; exact xnum_is (sqS t) (by omega) w M hV
 ·subst hk; have := sqS_size t; exact xhexr_is (sqS t) (by omega) w
 ·subst hk; have := sqS_size t; exact xinstant_is 1 (sqS t) (by omega) w M hV
 ·subst hk; have := sqS_size t; exact xinstant_is 2 (sqS t) (by omega) w M hV
 ·subst hk; have := sqS_size t; exact xinstant_is 3 (sqS t) (by omega) w M hV
theorem rdL_at (y : Tree) (p : Int) (t : ByteArray) (M : Int) (h : decide (300 < t.size) = false -> decide (wrongI t = -1) = true -> (y.at (envE (.int .i64 M :: rdE p t))).den L0 (envE (.int .i64 M :: rdE p t)) = tuV (Lx.readV p t)) (h1 : ¬(p < 1 \/ 7 < p)) :
  ((rdL y).at (envE (.int .i64 M :: rdE p t))).den L0 (envE (.int .i64 M :: rdE p t)) = tuV (Lx.readV p t) := by
 have e : (rdL y).at (envE (.int .i64 M :: rdE p t)) = bif decide ((300 : Int) < (t.size : Int)) then (tZ (it 3)).at (envE (.int .i64 M :: rdE p t)) else bif decide (decI t = 0) then y.at (envE (.int .i64 M :: rdE p t)) else (tZ (it 6)).at (envE (.int .i64 M :: rdE p t)) := rfl
 rw [e, decI_zero]
 by_cases h2 : 300 < t.size
 ·rw [decide_eq_true (by omega), cond_true, tZ_den (it 3) 3 _ rfl]; unfold Lx.readV; rw [if_neg h1, if_pos h2]
 ·rw [decide_eq_false (by omega), cond_false]
  by_cases h3 : wrongI t = -1
  ·rw [decide_eq_true h3, cond_true]; exact h (decide_eq_false h2) (decide_eq_true h3)
  ·rw [decide_eq_false h3, cond_false, tZ_den (it 6) 6 _ rfl]; unfold Lx.readV; rw [if_neg h1, if_neg h2, if_pos h3]
theorem xread_is (p : Int) (t : ByteArray) (w : World) (M : Int) (hV : Vars M w) : Calls Tryz.prog 9 #[.int .i64 p, .string t] w fun e w' => e = .returned (tuV (Lx.readV p t)) /\ Below w.heap.size w w' := by
 refine tree_rv (env := rdE p t) run_read (rdC_ok p t M) (by unfold rdE; rw [List.all_append, List.all_append]; rfl) trivial rfl rfl ?_ hV
 have e : rdT.at (envE (.int .i64 M :: rdE p t)) = bif decide (p = 1) then (rdL rdP).at (envE (.int .i64 M :: rdE p t)) else bif decide (p = 2) then (rdL rdY).at (envE (.int .i64 M :: rdE p t)) else bif decide (p = 3) then (rdL rdY).at (envE (.int .i64 M :: rdE p t)) else bif decide (p = 4) then (rdL rdY).at (envE (.int .i64 M :: rdE p t)) else
  bif decide (p = 5) then (rdL rdY).at (envE (.int .i64 M :: rdE p t)) else bif decide (p = 6) then (rdL rdY).at (envE (.int .i64 M :: rdE p t)) else bif decide (p = 7) then (rdL rdY).at (envE (.int .i64 M :: rdE p t)) else (tZ (it 2)).at (envE (.int .i64 M :: rdE p t)) := rfl
 rw [e]
 have yes : ∀ k, p = k -> k ≠ 1 -> 1 <= k -> k <= 7 -> ((rdL rdY).at (envE (.int .i64 M :: rdE p t))).den L0 (envE (.int .i64 M :: rdE p t)) = tuV (Lx.readV p t) := fun k hk k1 k2 k3 => by
  refine rdL_at rdY p t M (fun h2 h3 => ?_) (by omega)
  unfold Lx.readV
  rw [if_neg (by omega), if_neg (of_decide_eq_false h2), if_neg (fun h => h (of_decide_eq_true h3)), if_neg (by omega)]
  rfl
 by_cases h1 : p = 1
 ·rw [decide_eq_true h1, cond_true]
  refine rdL_at rdP p t M (fun h2 h3 => ?_) (by omega)
  unfold Lx.readV
  rw [if_neg (by omega), if_neg (of_decide_eq_false h2), if_neg (fun h => h (of_decide_eq_true h3)), if_pos h1]
  rfl
 rw [decide_eq_false h1, cond_false]
 by_cases h2 : p = 2
 ·rw [decide_eq_true h2]; exact yes 2 h2 (by decide) (by decide) (by decide)
 rw [decide_eq_false h2, cond_false]
 by_cases h3 : p = 3
 ·rw [decide_eq_true h3]; exact yes 3 h3 (by decide) (by decide) (by decide)
 rw [decide_eq_false h3, cond_false]
 by_cases h4 : p = 4
 ·rw [decide_eq_true h4]; exact yes 4 h4 (by decide) (by decide) (by decide)
 rw [decide_eq_false h4, cond_false]
 by_cases h5 : p = 5
 ·rw [decide_eq_true h5]; exact yes 5 h5 (by decide) (by decide) (by decide)
 rw [decide_eq_false h5, cond_false]
 by_cases h6 : p = 6
 ·rw [decide_eq_true h6]; exact yes 6 h6 (by decide) (by decide) (by decide)
 rw [decide_eq_false h6, cond_false]
 by_cases h7 : p = 7
 ·rw [decide_eq_true h7]; exact yes 7 h7 (by decide) (by decide) (by decide)
 rw [decide_eq_false h7, cond_false, tZ_den (it 2) 2 _ rfl]
 unfold Lx.readV
 rw [if_pos (by omega)]
end Go.Proofs.YthoojcdjjecogaaGreatDoor
namespace Go.Proofs.YthoojcdjjecogaaGreatDoor
open Go Go.RowKit Go.Ex
namespace Lx
def sameB (a b : Vl) (q : Bool) : Bool := if a.k = b.k then (if a.k = 4 then (equalM a.m b.m).1 && decide ((equalM a.m b.m).2 = 0) else if a.k = 6 then q else decide (a.t = b.t) && ((a.b == b.b) && ((a.n == b.n) && (decide (a.s = b.s) && decide (a.S = b.S))))) else false
def equalV (oa ob : Bool) (a b : Vl) (q : Bool) : Bool × Int := if oa = true /\ ob = true then (sameB a b q, 0) else (false, 2)
end Lx
def prE (v u : Vl) (l k : Value) (x y : Int) (r : List Value) : List Value := vE v l ++ ([.int .i64 x, .bool false] ++ (vE u k ++ ([.int .i64 y] ++ r)))
theorem prE_one {v u : Vl} {l k : Value} {n m : Nat} (hl : SliceN l n) (hk : SliceN k m) (x y : Int) (r : List Value) (hr : r.all Value.oneCell' = true) : (prE v u l k x y r).all Value.oneCell' = true := by
 unfold prE
 refine vE_one v l n hl _ ?_
 rw [List.all_append]
 refine (Bool.and_eq_true _ _).symm ▸ ⟨rfl, vE_one u k m hk _ ?_⟩
 rw [List.all_append, hr]; rfl
def smT : Tree := .node (.eq (.at 1) (.at 21)) (.node (.eq (.at 1) (.int 4)) (chT [(.at 40, true), (.eq (.at 41) (.int 0), true)] yesT noT) (.node (.eq (.at 1) (.int 6)) (.leaf (xb 42)) (chT [(.seq (.at 2) (.at 22), true), (.beq (.at 3) (.at 23), true), (.beq (.at 4) (.at 24), true), (.seq (.at 5) (.at 25), true), (.eq (.at 6) (.at 26), true)] yesT noT))) noT
def smX : List CallX := [⟨79, [moV 7, moV 27], [], .tup [xb 40, xi 41]⟩, ⟨80, [.atom 18, .atom 38, .fn 41 []], [(.eq (.at 1) (.at 21), true), (.eq (.at 1) (.int 6), true)], xb 42⟩]
theorem run_same9 : chk (runTr Tryz.prog nG (fun _ => none) gd moT smX 100 41 [vaV 1 (.atom 18), vaV 21 (.atom 38)] h0) smT [(.isSl 18, true), (.isSl 38, true)] = true := by decide +kernel
def ListEq (w0 : World) (M : Int) (v u : Vl) (l k : Value) (q : Bool) : Prop := v.k = 6 -> u.k = 6 -> ∀ w, VK M w0 w -> Calls Tryz.prog 80 #[l, k, .func (.func 41) #[] #[]] w fun e w' => e = .returned (.bool q) /\ Below w.heap.size w w'
theorem ListEq.next {w0 w : World} {M : Int} {v u : Vl} {l k : Value} {q : Bool} (h : ListEq w0 M v u l k q) (hk : VK M w0 w) : ListEq w M v u l k q := fun h6 hn w' hw => h h6 hn w' ⟨hw.1, hk.2.trans hw.2⟩
theorem xsame_is (v u : Vl) (hv : v.Sz) (hu : u.Sz) (l k : Value) (n m : Nat) (hl : SliceN l n) (hk : SliceN k m) (q : Bool) (w : World) (M : Int) (hq : ListEq w M v u l k q) (hV : Vars M w) : Calls Tryz.prog 41 #[v.val l, u.val k] w fun e w' => e = .returned (.bool (Lx.sameB v u q)) /\ Below w.heap.size w w' := by
 refine tree_rk (env := prE v u l k 0 0 [.bool (equalM v.m u.m).1, .int .i64 (equalM v.m u.m).2, .bool q]) run_same9
  ⟨⟨rfl, fk, fun _ L w hV => pequalm_is v.m u.m hv.m hu.m _ _ rfl w M hV.1⟩,
   ⟨rfl, fk, fun hp L w hV => ?_⟩, trivial⟩
  (prE_one hl hk _ _ _ rfl) ⟨isSl_ok hl rfl, isSl_ok hk rfl, trivial⟩ rfl rfl ?_ hV
 ·have k1 : v.k = u.k := of_decide_eq_true (show decide (v.k = u.k) = true from hp.1)
  have k2 : v.k = 6 := of_decide_eq_true (show decide (v.k = 6) = true from hp.2.1)
  exact hq k2 (k1 ▸ k2) w hV
 ·obtain ⟨E, hE⟩ : ∃ E, envE (.int .i64 M :: prE v u l k 0 0 [.bool (equalM v.m u.m).1, .int .i64 (equalM v.m u.m).2, .bool q]) = E := ⟨_, rfl⟩
  have e : smT.at (envE (.int .i64 M :: prE v u l k 0 0 [.bool (equalM v.m u.m).1, .int .i64 (equalM v.m u.m).2, .bool q])) = bif decide (v.k = u.k) then bif decide (v.k = 4) then bif (equalM v.m u.m).1 then bif decide ((equalM v.m u.m).2 = 0) then .bool true else .bool false else .bool false else bif decide (v.k = 6) then xb 42 else
   bif decide (v.t = u.t) then bif (v.b == u.b) then bif (v.n == u.n) then bif decide (v.s = u.s) then bif decide (v.S = u.S) then .bool true else .bool false else .bool false else .bool false else .bool false else .bool false else .bool false := rfl
  rw [e]
  clear e hE
  unfold Lx.sameB
  by_cases h1 : v.k = u.k
  ·rw [decide_eq_true h1, cond_true, if_pos h1]
   by_cases h2 : v.k = 4
   ·rw [decide_eq_true h2, cond_true, if_pos h2]
    cases (equalM v.m u.m).1 <;> cases decide ((equalM v.m u.m).2 = 0) <;> rfl
   ·rw [decide_eq_false h2, cond_false, if_neg h2]
    by_cases h3 : v.k = 6
    ·rw [decide_eq_true h3, cond_true, if_pos h3]; rfl
    ·rw [decide_eq_false h3, cond_false, if_neg h3]
     cases decide (v.t = u.t) <;> cases (v.b == u.b) <;> cases (v.n == u.n) <;> cases decide (v.s = u.s) <;> cases decide (v.S = u.S) <;> rfl
  ·rw [decide_eq_false h1, cond_false, if_neg h1]; rfl
def chI (b : Bool) : Int := bif b then 0 else 2
theorem chI_zero (b : Bool) : decide (chI b = 0) = b := by cases b <;> rfl
def eqT : Tree := .node (.eq (.at 19) (.int 0)) (.node (.eq (.at 39) (.int 0)) (.leaf (.tup [xb 40, it 0])) (.leaf (.tup [.bool false, it 2]))) (.leaf (.tup [.bool false, it 2]))
def eqX : List CallX := [⟨17, [vaV 1 (.atom 18)], [], xi 19⟩, ⟨17, [vaV 21 (.atom 38)], [], xi 39⟩, ⟨41, [vaV 1 (.atom 18), vaV 21 (.atom 38)], [(.eq (.at 19) (.int 0), true), (.eq (.at 39) (.int 0), true)], xb 40⟩]
theorem run_equal9 : chk (runTr Tryz.prog nG (fun _ => none) gd moT eqX 100 19 [vaV 1 (.atom 18), vaV 21 (.atom 38)] h0) eqT [(.isSl 18, true), (.isSl 38, true)] = true := by decide +kernel
theorem xequal_is (v u : Vl) (hv : v.Sz) (hu : u.Sz) (l k : Value) (n m : Nat) (hl : SliceN l n) (hk : SliceN k m) (c d q : Bool) (w : World) (M : Int) (hc : ListOk w M v l n c) (hd : ListOk w M u k m d) (hq : Lx.okV v n c = true -> Lx.okV u m d = true -> ListEq w M v u l k q) (hV : Vars M w) :
  Calls Tryz.prog 19 #[v.val l, u.val k] w fun e w' => e = .returned (.tuple #[.bool (Lx.equalV (Lx.okV v n c) (Lx.okV u m d) v u q).1, .int .i64 (Lx.equalV (Lx.okV v n c) (Lx.okV u m d) v u q).2]) /\ Below w.heap.size w w' := by
 refine tree_rk (env := prE v u l k (chI (Lx.okV v n c)) (chI (Lx.okV u m d)) [.bool (Lx.sameB v u q)]) run_equal9
  ⟨⟨rfl, fk, fun _ L w hV => xcheck_is v hv l n hl c w M (hc.next hV) hV.1⟩, ⟨rfl, fk, fun _ L w hV => xcheck_is u hu k m hk d w M (hd.next hV) hV.1⟩,
   ⟨rfl, fk, fun hp L w hV => xsame_is v u hv hu l k n m hl hk q w M ((hq ?_ ?_).next hV) hV.1⟩, trivial⟩ (prE_one hl hk _ _ _ rfl) ⟨isSl_ok hl rfl, isSl_ok hk rfl, trivial⟩ rfl rfl ?_ hV
 ·have h1 : decide (chI (Lx.okV v n c) = 0) = true := hp.1
  rw [chI_zero] at h1; exact h1
 ·have h2 : decide (chI (Lx.okV u m d) = 0) = true := hp.2.1
  rw [chI_zero] at h2; exact h2
 ·have e : eqT.at (envE (.int .i64 M :: prE v u l k (chI (Lx.okV v n c)) (chI (Lx.okV u m d)) [.bool (Lx.sameB v u q)])) = bif decide (chI (Lx.okV v n c) = 0) then bif decide (chI (Lx.okV u m d) = 0) then .tup [xb 40, it 0] else .tup [.bool false, it 2] else .tup [.bool false, it 2] := rfl
  rw [e, chI_zero, chI_zero]
  unfold Lx.equalV
  cases Lx.okV v n c with
  | false => rw [cond_false, if_neg (fun h => by cases h.1)]; rfl
  | true =>
   cases Lx.okV u m d with
   | false => rw [cond_true, cond_false, if_neg (by decide)]; rfl
   | true => rw [cond_true, cond_true, if_pos (by decide)]; rfl
end Go.Proofs.YthoojcdjjecogaaGreatDoor
namespace Go.Proofs.YthoojcdjjecogaaGreatDoor
open Go Go.RowKit Go.Ex
end Go.Proofs.YthoojcdjjecogaaGreatDoor
