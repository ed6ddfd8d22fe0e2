/-
  Part 21 of the proof: what functions return, and plain facts (Crdecode Csqr Csqr2 Xspec Xrnum Mstate Mrrd Mpadded Csq). Conditions: each theorem names its own.
-/
import Derived.LoopTactic
import Derived.Test.YthoojcdjjecogaaGreatDoorG19
import Derived.Test.YthoojcdjjecogaaGreatDoorG11
import Derived.Test.YthoojcdjjecogaaGreatDoorG17
import Derived.Test.YthoojcdjjecogaaGreatDoorG06
import Derived.Test.YthoojcdjjecogaaGreatDoorG20
import Derived.Deep.CutBlock
import Derived.Deep.DeepCutAuto
import Derived.Test.YthoojcdjjecogaaGreatDoorG03
import Derived.Deep.MidRow
import Derived.Test.YthoojcdjjecogaaGreatDoorG04
import Derived.Shelf.Strings.SlTrimAscii
import Derived.Lib.ConvBytes
set_option maxRecDepth 1000000
set_option maxHeartbeats 16000000
namespace Go.Proofs.YthoojcdjjecogaaGreatDoor
open Go Go.RowKit
theorem wrongI_of_all {s : ByteArray} (h : ∀ y ∈ items s, 0 <= y.2) : wrongI s = -1 := by
 unfold wrongI
 rw [List.find?_eq_none.2 (fun y hy => by have := h y hy; simp; omega)]
theorem wrongI_of_bad {s : ByteArray} {pre t : List (Nat × Int)} {x : Nat × Int} (hi : items s = pre ++ x :: t) (h : ∀ y ∈ pre, 0 <= y.2) (hx : x.2 < 0) : wrongI s = x.1 := by
 unfold wrongI
 rw [hi, List.find?_append, List.find?_eq_none.2 (fun y hy => by have := h y hy; simp; omega)]
 simp [hx]

theorem f25_any (s : ByteArray) (hs : s.size <= 1000000) (w : World) : Calls Tryz.prog 26 #[.string s] w fun e w' =>
  ((∃ v, wrongI s = -1 /\ e = .returned (.tuple #[v, .int .i64 0, .int .i64 0]) /\ w'.ownsRow w.heap.size 21 1 v (items s).length (i32s (seconds (items s)))) \/ (0 <= wrongI s /\ e = .returned (.tuple #[.slice none 0 0, .int .i64 (wrongI s), .int .i64 6]))) /\ Below w.heap.size w w' := by
 obtain ⟨i0, hi, hz0, hz1, hz2⟩ := info_parts Tryz.info21
 go_enter Tryz.func26, Tryz.ntmps26
 go_wp2
 go_loopw [5, 6] (fun v i wr => ∃ (p f : Nat) (pre : List (Nat × Int)), p <= s.size /\ s.size < p + f /\ pre.length <= p /\ i = .int .i64 p /\ Hid (items s = pre ++ Ch.items f ((bts s).drop p) p) /\ Hid (∀ y ∈ pre, 0 <= y.2) /\
   wr.ownsRow w.heap.size 21 1 v pre.length (i32s (seconds pre)) /\ Below w.heap.size w wr) (fun _ i _ => s.size - (intOf i).toNat)
 case atStart => exact ⟨0, s.size + 1, [], Nat.zero_le _, by omega, by simp, rfl, Lib.hid rfl, Lib.hid (by simp), ⟨rfl, .inl ⟨rfl, rfl⟩⟩, Below.refl _ _⟩
 case round =>
  obtain ⟨p, f, pre, hp, hf, hpre, rfl, hit, hall, hown, hB⟩ := hrel
  by_cases hlt : p < s.size
  ·have hsz' : (s.extract p s.size).size = s.size - p := by simp
   have hle : (s.extract p s.size).size <= maxLen := by unfold maxLen; omega
   obtain ⟨f, rfl⟩ : ∃ f', f = f' + 1 := ⟨f - 1, by omega⟩
   have hpl : p < (bts s).length := by rw [bts_length]; exact hlt
   clear hsz'
   cases hd : Ch.dec ((bts s).drop p) with
   | none =>
    have hd' : Ch.dec (bts (s.extract p s.size)) = none := by rw [bts_from]; exact hd
    have HD' : Hid _ := Lib.hid hd'
    have hw : wrongI s = (p : Nat) := wrongI_of_bad (x := (p, -1)) (t := []) (by rw [hit.out, items_none hpl hd]) hall.out (by simp)
    have HW : Hid _ := Lib.hid hw
    clear hd hd' hit hw
    go_wp2_with (go_at_call 52; refine (f44_none _ _ hle HD'.out).mono ?_; rintro e w1 ⟨⟨x, rfl⟩, hb1⟩)
    go_ret3
    go_light
    exact ⟨.inr ⟨by rw [HW.out]; omega, by rw [HW.out]; rfl⟩, hB.trans (hb1.mono hB.size)⟩
   | some q =>
    obtain ⟨c, m⟩ := q
    have hd' : Ch.dec (bts (s.extract p s.size)) = some (c, m) := by rw [bts_from]; exact hd
    obtain ⟨hm1, hm4, hml⟩ := Ch.dec_le hd
    obtain ⟨_, hv, hlen⟩ := Ch.dec_some hd
    have hcm := valid_nat hv
    have hpm : p + m <= s.size := by simp only [List.length_drop, bts_length] at hml; omega
    have HD' : Hid _ := Lib.hid hd'
    have HL : Hid _ := Lib.hid hlen
    have hit' : Hid (items s = (pre ++ [(p, (c : Int))]) ++ Ch.items f ((bts s).drop (p + m)) (p + m)) := Lib.hid (by rw [hit.out, items_some hpl hd]; simp)
    have hall' : Hid (∀ y ∈ pre ++ [(p, (c : Int))], 0 <= y.2) := Lib.hid (fun y hy => by
     rcases List.mem_append.1 hy with h | h
     ·exact hall.out y h
     ·simp at h; subst h; exact Int.natCast_nonneg c)
    clear hd hd' hit hml hall hv hlen
    go_wp2_with (first
     | (go_at_call 52; refine (f44_some _ _ hle c m HD'.out).mono ?_; rintro e w1 ⟨rfl, hb1⟩; have hown1 := own_below hown hb1)
     | (at_builtin; go_must (refine wpList_append_own _ rfl _ _ 49 rfl w.heap.size 21 i0 (.int .i32 0) 1 4 Tryz.underlying49 hi hz0 hz1 hz2 rfl (by decide) u5 pre.length (i32s (seconds pre)) rfl (hown1.alloc _) ⟨w1.heap.size, 0, none⟩ 1 1 [.int .i32 (c : Int)] rfl rfl (cell_one_new _ _ _) (by simp [Value.oneCell']) (by unfold maxLen; omega) (by omega) (by have := hB.size; have := hb1.size; simp; omega) ?_); intro v' w2 hown2 hgrow _)
     | (go_at_call 53; refine (f41_nat _ hcm _).mono ?_; rintro e w3 ⟨⟨bs, rfl, hbs⟩, hb3⟩; have hbl : bs.size <= 4 := (by rw [hbs, str_size, Ch.encN_length, HL.out]; exact hm4); have HB : Hid _ := Lib.hid hbs; clear hbs))
    have hbs : bs.size = m := by rw [HB.out, str_size, Ch.encN_length, HL.out]
    have hown3 := own_below hown2 hb3
    have hB2 : Below w.heap.size w w2 := (hB.trans (hb1.mono hB.size)).grown (grownBy_alloc hgrow) (by have := hB.size; have := hb1.size; omega) (fun k e => (Nat.lt_or_ge k w.heap.size).elim (fun hk => absurd e.symm (row_ge hown1 k hk)) id)
    have hB3 : Below w.heap.size w w3 := hB2.trans (hb3.mono hB2.size)
    go_wp2
    go_roundw
    case rel => exact ⟨p + m, f, pre ++ [(p, (c : Int))], by omega, by omega, by simp; omega, by rw [hbs]; simp, hit', hall', by simpa [i32s, seconds] using hown3, hB3⟩
    case measure => simp [intOf]; omega
  ·have hpe : p = s.size := by omega
   have hit' : items s = pre := by rw [hit.out, items_end f p _ (by rw [bts_length]; omega), List.append_nil]
   have hall' : wrongI s = -1 := wrongI_of_all (by rw [hit']; exact hall.out)
   have HI : Hid _ := Lib.hid hit'
   have HA : Hid _ := Lib.hid hall'
   clear hit' hit hpe hall hall'
   go_wp2
   go_ret3
   go_light
   exact ⟨.inl ⟨u5, HA.out, rfl, by rw [HI.out]; exact hown⟩, hB⟩
theorem f36_any (s : ByteArray) (hs : s.size <= 1000000) (w : World) : Calls Tryz.prog 54 #[.string s] w fun e w' => e = .returned (.bool (decide (wrongI s = -1))) /\ Below w.heap.size w w' := by
 go_enter Tryz.func54, Tryz.ntmps54
 go_wp2_with (go_at_call 26; refine (f25_any s hs _).mono ?_; rintro e w1 ⟨⟨v, hw, rfl, hown⟩ | ⟨hw, rfl⟩, hb⟩)
 all_goals go_ret
 all_goals go_light
 ·exact ⟨ret_bool (by rw [hw]; rfl), hb⟩
 ·exact ⟨ret_bool (by rw [decide_eq_false (by omega)]), hb⟩

def sqB (c : Nat) : Nat := if Ch.blank c then 32 else c
def sqStep (out : List Nat) (c : Nat) : List Nat := if sqB c = 32 /\ (out = [] \/ out.getLast? = some 32) then out else out ++ [sqB c]
def sqRow (l : List Nat) : List Nat := l.foldl sqStep []
def sqTwo (l : List Nat) : List Nat := if (sqRow l).getLast? = some 32 then (sqRow l).dropLast else sqRow l

theorem sqB_lt {c : Nat} (h : c < 256) : sqB c < 256 := by unfold sqB; split <;> omega
theorem sqStep_length (out : List Nat) (c : Nat) : (sqStep out c).length <= out.length + 1 := by
 unfold sqStep; split
 ·omega
 ·simp
theorem sqRow_length (l : List Nat) : (sqRow l).length <= l.length := by
 have : ∀ (l out : List Nat), (l.foldl sqStep out).length <= out.length + l.length := by
  intro l
  induction l with
  | nil => intro out; simp
  | cons c l ih =>
   intro out
   have h1 := ih (sqStep out c)
   have h2 := sqStep_length out c
   simp only [List.foldl_cons, List.length_cons]; omega
 have h := this l []
 rw [List.length_nil, Nat.zero_add] at h
 exact h
theorem sqRow_succ (s : ByteArray) (k : Nat) (h : k < s.size) : sqRow ((bts s).take (k + 1)) = sqStep (sqRow ((bts s).take k)) (s[k]'h).toNat := by
 rw [bts_take_succ s k h]; simp [sqRow]
theorem own_last {W : World} {B n : Nat} {v : Value} {out : List Nat} (h : W.ownsRow B 5 1 v (n + 1) (u8s out)) :
  ∃ g cap, v = .slice (some ⟨g, 0, none⟩) (n + 1) cap /\ n + 1 <= cap /\ W.cell? ⟨g, n, none⟩ = some (.int .u8 (out.getD n 0 : Nat)) := by
 obtain ⟨hl, ⟨_, h0⟩ | ⟨g, cap, cur, rfl, _, hg, hn, hc, hz, ht⟩⟩ := h
 ·omega
 ·refine ⟨g, cap, rfl, hn, ?_⟩
  have hl2 : n < out.length := by rw [u8s_length] at hl; omega
  have e : (cur.toList.take ((n + 1) * 1))[n]? = cur.toList[n]? := List.getElem?_take_of_lt (by omega)
  rw [ht] at e
  have e2 : cur[n]? = some (Value.int .u8 (out.getD n 0 : Nat)) := by
   rw [<- Array.getElem?_toList, <- e]
   simp [u8s, hl2, List.getD_eq_getElem?_getD]
  simp [World.cell?, hg, e2]


theorem sqRow_le (s : ByteArray) (k : Nat) : (sqRow ((bts s).take k)).length <= s.size := by
 have := sqRow_length ((bts s).take k)
 rw [List.length_take, bts_length] at this
 omega
theorem last_getD (out : List Nat) (n : Nat) (h : out.length = n + 1) : out.getLast? = some (out.getD n 0) := by
 rw [List.getLast?_eq_getElem?, h, Nat.add_sub_cancel, List.getD_eq_getElem?_getD, List.getElem?_eq_getElem (by omega)]; rfl

theorem f23_2 (s : ByteArray) (hs : s.size <= 150000) (w : World) (hw : wrongI s = -1) : Calls Tryz.prog 27 #[.string s, .int .i64 2] w fun e w' =>
  e = .returned (.tuple #[.string (str (sqTwo (bts s))), .int .i64 0]) /\ Below w.heap.size w w' := by
 obtain ⟨i0, hi, hz0, hz1, hz2⟩ := info_parts Tryz.info5
 have hd : decide (wrongI s = -1) = true := decide_eq_true hw
 have HD : Hid _ := Lib.hid hd
 clear hd hw
 go_enter Tryz.func27, Tryz.ntmps27
 go_wp2_with (go_at_call 54; refine (f36_any s (by omega) _).mono ?_; rintro e w0 ⟨rfl, hb0⟩; rw [HD.out])
 go_loopw [6, 7] (fun v i wr => ∃ (k : Nat) (out : List Nat), k <= s.size /\ i = .int .i64 k /\ out.length <= 150000 /\ Hid (out = sqRow ((bts s).take k)) /\ wr.ownsRow w.heap.size 5 1 v out.length (u8s out) /\ Below w.heap.size w wr) (fun _ i _ => s.size - (intOf i).toNat)
 case atStart => exact ⟨0, [], Nat.zero_le _, rfl, by simp, Lib.hid rfl, ⟨rfl, .inl ⟨rfl, rfl⟩⟩, hb0⟩
 case round =>
  obtain ⟨k, out, hk, rfl, hol, hout, hown, hB⟩ := hrel
  by_cases hlt : k < s.size
  ·obtain ⟨c, hc⟩ : ∃ c, (s[k]'hlt).toNat = c := ⟨_, rfl⟩
   have hwr : wrap32 (c : Int) = (c : Int) := by have := (s[k]'hlt).toNat_lt; unfold wrap32; omega
   have hlen' : Hid ((sqRow ((bts s).take (k + 1))).length <= 150000) := Lib.hid (Nat.le_trans (sqRow_le s (k + 1)) hs)
   have hstep : Hid (sqRow ((bts s).take (k + 1)) = sqStep out c) := Lib.hid (by rw [sqRow_succ s k hlt, <- hout.out, hc])
   cases hbl : Ch.blank (c : Int) with
   | false =>
    have hne : ¬ c = 32 := fun h => by subst h; revert hbl; decide
    have e1 : Hid (sqRow ((bts s).take (k + 1)) = out ++ [c]) := Lib.hid (by rw [hstep.out]; simp [sqStep, sqB, hbl, hne])
    have HBL : Hid _ := Lib.hid hbl
    have hn32 : ((c : Int) == 32) = false := beq_eq_false_iff_ne.2 (by omega)
    clear hbl hout hstep hne
    go_wp2_with (first
     | (go_at_call 55; refine (f11_any _ _).mono ?_; rintro e w3 ⟨rfl, rfl⟩; rw [HBL.out])
     | (at_builtin; go_must (refine wpList_append_own _ rfl _ _ 79 rfl w.heap.size 5 i0 (.int .u8 0) 1 1 Tryz.underlying79 hi hz0 hz1 hz2 rfl (by decide) _ out.length (u8s out) rfl (hown.alloc _) ⟨wr.heap.size, 0, none⟩ 1 1 [.int .u8 (c : Int)] rfl rfl (cell_one_new _ _ _) (by simp [Value.oneCell']) (by unfold maxLen; omega) (by omega) (by have := hB.size; simp; omega) ?_); intro v' w2 hown2 hgrow _))
    go_roundw
    case rel =>
     rw [e1.out] at hlen'
     exact ⟨k + 1, out ++ [c], by omega, by simp, hlen'.out, Lib.hid e1.out.symm, by rw [u8s_append, List.length_append]; exact hown2, hB.grown (grownBy_alloc hgrow) hB.size (fun j e => (Nat.lt_or_ge j w.heap.size).elim (fun hj => absurd e.symm (row_ge hown j hj)) id)⟩
    case measure => simp [intOf]; omega
   | true =>
    have HBL : Hid _ := Lib.hid hbl
    cases ho : out with
    | nil =>
     subst ho
     have e1 : Hid (sqRow ((bts s).take (k + 1)) = []) := Lib.hid (by rw [hstep.out]; simp [sqStep, sqB, hbl])
     clear hbl hout hstep
     obtain ⟨a, cap, rfl⟩ := row_slice hown
     go_wp2_with (go_at_call 55; refine (f11_any _ _).mono ?_; rintro e w3 ⟨rfl, rfl⟩; rw [HBL.out])
     go_roundw
     case rel => exact ⟨k + 1, [], by omega, by simp, by simp, Lib.hid e1.out.symm, hown, hB⟩
     case measure => simp [intOf]; omega
    | cons a0 t0 =>
     obtain ⟨n, hn⟩ : ∃ n, out.length = n + 1 := ⟨t0.length, by rw [ho]; rfl⟩
     have hlast := last_getD out n hn
     have hne : out ≠ [] := by rw [ho]; simp
     clear ho
     obtain ⟨x, hx⟩ : ∃ x, out.getD n 0 = x := ⟨_, rfl⟩
     have hown0 := hown
     rw [hn] at hown0
     obtain ⟨g, cap, rfl, hcap, hcell⟩ := own_last hown0
     rw [hx] at hlast hcell
     have hnz : (((n : Int) + 1) == 0) = false := beq_eq_false_iff_ne.2 (by omega)
     by_cases hx32 : x = 32
     ·have e1 : Hid (sqRow ((bts s).take (k + 1)) = out) := Lib.hid (by rw [hstep.out]; simp [sqStep, sqB, hbl, hlast, hx32])
      have hn32 : ((x : Int) == 32) = true := beq_iff_eq.2 (by omega)
      clear hbl hout hstep hlast hne hx32 hx
      go_wp2_with (go_at_call 55; refine (f11_any _ _).mono ?_; rintro e w3 ⟨rfl, rfl⟩; rw [HBL.out])
      go_roundw
      case rel => exact ⟨k + 1, out, by omega, by simp, hol, Lib.hid e1.out.symm, hown, hB⟩
      case measure => simp [intOf]; omega
     ·have e1 : Hid (sqRow ((bts s).take (k + 1)) = out ++ [32]) := Lib.hid (by rw [hstep.out]; simp [sqStep, sqB, hbl, hlast, hx32, hne])
      have hn32 : ((x : Int) == 32) = false := beq_eq_false_iff_ne.2 (by omega)
      clear hbl hout hstep hlast hne hx32 hx
      go_wp2_with (first
       | (go_at_call 55; refine (f11_any _ _).mono ?_; rintro e w3 ⟨rfl, rfl⟩; rw [HBL.out])
       | (at_builtin; go_must (refine wpList_append_own _ rfl _ _ 79 rfl w.heap.size 5 i0 (.int .u8 0) 1 1 Tryz.underlying79 hi hz0 hz1 hz2 rfl (by decide) _ out.length (u8s out) rfl (hown.alloc _) ⟨wr.heap.size, 0, none⟩ 1 1 [.int .u8 32] rfl rfl (cell_one_new _ _ _) (by simp [Value.oneCell']) (by unfold maxLen; omega) (by omega) (by have := hB.size; simp; omega) ?_); intro v' w2 hown2 hgrow _))
      go_roundw
      case rel =>
       rw [e1.out] at hlen'
       exact ⟨k + 1, out ++ [32], by omega, by simp, hlen'.out, Lib.hid e1.out.symm, by rw [u8s_append, List.length_append]; exact hown2, hB.grown (grownBy_alloc hgrow) hB.size (fun j e => (Nat.lt_or_ge j w.heap.size).elim (fun hj => absurd e.symm (row_ge hown j hj)) id)⟩
      case measure => simp [intOf]; omega
  ·have hke : (bts s).take k = bts s := List.take_of_length_le (by rw [bts_length]; omega)
   rw [hke] at hout
   clear hke
   cases ho : out with
   | nil =>
    subst ho
    have e1 : Hid (sqTwo (bts s) = []) := Lib.hid (by rw [sqTwo, <- hout.out]; simp)
    have hown' := hown
    rw [u8s_i] at hown'
    have hcv := run_str_own hown'
    rw [strI_nat, <- e1.out] at hcv
    have hown2 : wr.ownsRow w.heap.size 5 1 u6 0 [] := hown
    obtain ⟨a, cap, rfl⟩ := row_slice hown2
    clear hout hown' hown hown2
    go_wp2
    go_ret2
    go_light
    exact ⟨rfl, hB⟩
   | cons a0 t0 =>
    obtain ⟨n, hn⟩ : ∃ n, out.length = n + 1 := ⟨t0.length, by rw [ho]; rfl⟩
    have hlast := last_getD out n hn
    clear ho
    obtain ⟨x, hx⟩ : ∃ x, out.getD n 0 = x := ⟨_, rfl⟩
    have hown0 := hown
    rw [hn] at hown0
    obtain ⟨g, cap, rfl, hcap, hcell⟩ := own_last hown0
    rw [hx] at hlast hcell
    have hpos : decide (0 < (n : Int) + 1) = true := decide_eq_true (by omega)
    by_cases hx32 : x = 32
    ·have e1 : Hid (sqTwo (bts s) = out.dropLast) := Lib.hid (by rw [sqTwo, <- hout.out, hlast, hx32]; simp)
     have hn32 : ((x : Int) == 32) = true := beq_iff_eq.2 (by omega)
     have hown1 : wr.ownsRow w.heap.size 5 1 (.slice (some ⟨g, 0, none⟩) n cap) n (u8s out.dropLast) := by
      obtain ⟨hl, ⟨h, _⟩ | ⟨g', cap', cur, h, h1, h2, h3, h4, h5, h6⟩⟩ := hown0
      ·simp at h
      ·simp only [Value.slice.injEq, Option.some.injEq, Addr.mk.injEq, and_true, true_and] at h
       obtain ⟨rfl, rfl⟩ := h
       refine ⟨by rw [u8s_length, List.length_dropLast, hn]; omega, .inr ⟨g, cap, cur, rfl, h1, h2, by omega, h4, h5, ?_⟩⟩
       have : u8s out.dropLast = (u8s out).take (n * 1) := by
        simp only [u8s, List.dropLast_eq_take, hn]; simp
       rw [this, <- h6, List.take_take, Nat.min_eq_left (by omega)]
     rw [u8s_i] at hown1
     have hcv := run_str_own hown1
     rw [strI_nat, <- e1.out] at hcv
     clear hout hown1 hlast hx32 hx
     go_wp2
     go_ret2
     go_light
     exact ⟨rfl, hB⟩
    ·have e1 : Hid (sqTwo (bts s) = out) := Lib.hid (by rw [sqTwo, <- hout.out, hlast]; simp [hx32])
     have hn32 : ((x : Int) == 32) = false := beq_eq_false_iff_ne.2 (by omega)
     rw [u8s_i] at hown0
     have hcv := run_str_own hown0
     rw [strI_nat, <- e1.out] at hcv
     clear hout hown0 hlast hx32 hx
     go_wp2
     go_ret2
     go_light
     exact ⟨rfl, hB⟩
end Go.Proofs.YthoojcdjjecogaaGreatDoor
namespace Go.Proofs.YthoojcdjjecogaaGreatDoor
open Go Go.RowKit

structure Vl where
 k : Int
 t : ByteArray
 b : Bool
 n : Bool
 s : ByteArray
 S : Int
 m : Mo
namespace Lx
def zero : Vl := ⟨0, ⟨#[]⟩, false, false, ⟨#[]⟩, 0, Mo.nil⟩
end Lx
def Vl.list (v : Vl) : List Value := [.int .i64 v.k, .string v.t, .bool v.b, .bool v.n, .string v.s, .int .i64 v.S] ++ v.m.list
def Vl.val (v : Vl) (l : Value) : Value := .agg (v.list ++ [l]).toArray
def nilL : Value := .slice none 0 0
namespace Lx
def strT : ByteArray := ⟨#[116, 114, 117, 101]⟩
def strF : ByteArray := ⟨#[102, 97, 108, 115, 101]⟩
def truthV (s : ByteArray) : Vl × Int :=
 if s = strT \/ s = ⟨#[49]⟩ then (⟨2, ⟨#[]⟩, true, false, ⟨#[]⟩, 0, Mo.nil⟩, 0) else if s = strF \/ s = ⟨#[48]⟩ then (⟨2, ⟨#[]⟩, false, false, ⟨#[]⟩, 0, Mo.nil⟩, 0) else (zero, 6)
def numV (r : Res) : Vl × Int := if r.k = 0 then (⟨3, ⟨#[]⟩, false, r.n, r.s, r.S, Mo.nil⟩, 0) else (zero, r.k)
def momV (q : Mo × Int) : Vl × Int := if q.2 = 0 then (⟨4, ⟨#[]⟩, false, false, ⟨#[]⟩, 0, q.1⟩, 0) else (zero, q.2)
def half (c : Nat) : Option Nat := if 48 <= c /\ c <= 57 then some (c - 48) else if 97 <= c /\ c <= 102 then some (c - 87) else if 65 <= c /\ c <= 70 then some (c - 55) else none
def hexL : List Nat -> Option (List Nat)
 | [] => some []
 | [_] => none
 | a :: b :: r => (half a).bind fun x => (half b).bind fun y => (hexL r).map fun l => (16 * x + y) :: l
def hexV (l : List Nat) : Vl × Int := match hexL l with
 | some m => (⟨5, str m, false, false, ⟨#[]⟩, 0, Mo.nil⟩, 0)
 | none => (zero, 6)
def readS (p : Int) (s : ByteArray) : Vl × Int := if p = 2 then truthV s else if p = 3 then numV (readR (bts s)) else if p = 7 then hexV (bts s) else momV (Mo.readM (p - 3) (bts s))
def readV (p : Int) (t : ByteArray) : Vl × Int :=
 if p < 1 \/ 7 < p then (zero, 2) else if 300 < t.size then (zero, 3) else if wrongI t ≠ -1 then (zero, 6) else if p = 1 then (⟨1, t, false, false, ⟨#[]⟩, 0, Mo.nil⟩, 0) else readS p (str (sqTwo (bts t)))
def bareB (v : Vl) : Bool := (decide (v.k = 1) || decide (v.k = 5) || decide (v.t = ⟨#[]⟩)) && (decide (v.k = 2) || !v.b) && (decide (v.k = 3) || (!v.n && decide (v.s = ⟨#[]⟩) && decide (v.S = 0))) && (decide (v.k = 4) || Ex.valsEq v.m.list Mo.nil.list)
end Lx
end Go.Proofs.YthoojcdjjecogaaGreatDoor
namespace Go.Proofs.YthoojcdjjecogaaGreatDoor
open Go Go.RowKit

theorem xdigits_yes (s : ByteArray) (hs : s.size <= 1000000) (hd : (bts s).all Dc.dig = true) (w : World) : Calls Tryz.prog 56 #[.string s, .int .i64 0] w fun e w' => e = .returned (.bool true) /\ w = w' := by
 have HD : Hid _ := Lib.hid hd
 clear hd
 have k0 : decide ((s.size : Int) < 0) = false := decide_eq_false (by omega)
 go_enter Tryz.func56, Tryz.ntmps56
 go_wp2
 go_loop [5] (fun i => ∃ k : Nat, k <= s.size /\ i = .int .i64 k) (fun i => s.size - (intOf i).toNat)
 case atStart => exact ⟨0, Nat.zero_le _, rfl⟩
 case round =>
  obtain ⟨k, hk, rfl⟩ := hrel
  by_cases hlt : k < s.size
  ·obtain ⟨c, hc⟩ : ∃ c, (s[k]'hlt).toNat = c := ⟨_, rfl⟩
   have hm := Dc.dig_iff.1 (List.all_eq_true.1 HD.out c (by rw [<- hc, <- bts_get s k hlt]; exact List.getElem_mem _))
   have d1 : decide ((c : Int) < 48) = false := decide_eq_false (by omega)
   have d2 : decide (57 < (c : Int)) = false := decide_eq_false (by omega)
   clear hm
   go_wp2
   go_round
   case rel => exact ⟨k + 1, by omega, by simp⟩
   case measure => simp [intOf]; omega
  ·go_wp2
   go_ret
   exact ⟨rfl, rfl⟩
theorem xdigits_no (s : ByteArray) (hs : s.size <= 1000000) (hd : (bts s).all Dc.dig = false) (w : World) : Calls Tryz.prog 56 #[.string s, .int .i64 0] w fun e w' => e = .returned (.bool false) /\ w = w' := by
 have HD : Hid _ := Lib.hid hd
 clear hd
 go_enter Tryz.func56, Tryz.ntmps56
 go_wp2
 go_loop [5] (fun i => ∃ k : Nat, k <= s.size /\ i = .int .i64 k /\ Hid (((bts s).take k).all Dc.dig = true)) (fun i => s.size - (intOf i).toNat)
 case atStart => exact ⟨0, Nat.zero_le _, rfl, Lib.hid rfl⟩
 case round =>
  obtain ⟨k, hk, rfl, hall⟩ := hrel
  by_cases hlt : k < s.size
  ·obtain ⟨c, hc⟩ : ∃ c, (s[k]'hlt).toNat = c := ⟨_, rfl⟩
   by_cases hm : 48 <= c /\ c <= 57
   ·have hall2 : Hid (((bts s).take (k + 1)).all Dc.dig = true) := Lib.hid (by rw [bts_take_succ s k hlt, List.all_append, hall.out, hc]; simp [Dc.dig, hm.1, hm.2])
    have d1 : decide ((c : Int) < 48) = false := decide_eq_false (by omega)
    have d2 : decide (57 < (c : Int)) = false := decide_eq_false (by omega)
    clear hm hall
    go_wp2
    go_round
    case rel => exact ⟨k + 1, by omega, by simp, hall2⟩
    case measure => simp [intOf]; omega
   ·by_cases h1 : c < 48
    ·have d1 : decide ((c : Int) < 48) = true := decide_eq_true (by omega)
     clear hm h1 hall
     go_wp2
     go_ret
     exact ⟨rfl, rfl⟩
    ·have d1 : decide ((c : Int) < 48) = false := decide_eq_false (by omega)
     have d2 : decide (57 < (c : Int)) = true := decide_eq_true (by omega)
     clear hm h1 hall
     go_wp2
     go_ret
     exact ⟨rfl, rfl⟩
  ·exfalso
   have hke : (bts s).take k = bts s := List.take_of_length_le (by rw [bts_length]; omega)
   have := hall.out
   rw [hke, HD.out] at this; cases this
theorem xdigits_r (s : ByteArray) (hs : s.size <= 1000000) (r : Bool) (hr : (bts s).all Dc.dig = r) (w : World) : Calls Tryz.prog 56 #[.string s, .int .i64 0] w fun e w' => e = .returned (.bool r) /\ w = w' := by
 subst hr
 cases h : (bts s).all Dc.dig with
 | true => exact xdigits_yes s hs h w
 | false => exact xdigits_no s hs h w
def Cutt (m : List Nat) (k : Nat) (p : Bool) (a b : List Nat) : Prop :=
 (p = false /\ k <= (Dc.whole m).length /\ a = m /\ b = []) \/ (p = true /\ a = Dc.whole m /\ b = Dc.part m)
theorem Cutt.next {m : List Nat} {k : Nat} {a b : List Nat} (h : Cutt m k false a b) (hne : m.getD k 0 ≠ 46) (hk : k < m.length) : Cutt m (k + 1) false a b := by
 rcases h with ⟨h1, h2, h3⟩ | ⟨h1, _⟩
 ·refine .inl ⟨rfl, ?_, h3⟩
  rcases Nat.lt_or_ge k (Dc.whole m).length with h | h
  ·exact h
  ·exfalso
   have e : k = (Dc.whole m).length := by omega
   rw [e] at hne hk
   exact hne (Dc.whole_at hk).1
 ·cases h1
theorem Cutt.found {m : List Nat} {k : Nat} {a b : List Nat} (h : Cutt m k false a b) (hc : m.getD k 0 = 46) (hk : k < m.length) : Cutt m (k + 1) true (m.take k) (m.drop (k + 1)) := by
 rcases h with ⟨_, h2, _⟩ | ⟨h1, _⟩
 ·rcases Nat.lt_or_ge k (Dc.whole m).length with h | h
  ·exact absurd hc (Dc.whole_lt h)
  ·obtain rfl : k = (Dc.whole m).length := by omega
   obtain ⟨_, a2, a3, _⟩ := Dc.whole_at hk
   exact .inr ⟨rfl, a2, a3⟩
 ·cases h1
theorem Cutt.done {m : List Nat} {k : Nat} {p : Bool} {a b : List Nat} (h : Cutt m k p a b) (hp : p = true \/ k = m.length) : a = Dc.whole m /\ b = Dc.part m := by
 rcases h with ⟨h1, h2, h3, h4⟩ | ⟨_, h⟩
 ·rcases hp with hp | hp
  ·rw [h1] at hp; cases hp
  ·have e := Dc.whole_length m
   obtain ⟨a1, a2⟩ := Dc.whole_all (l := m) (by omega)
   rw [a1, a2]; exact ⟨h3, h4⟩
 ·exact h
namespace Lx
theorem backZ_stop {l : List Nat} (h : l.getLast? ≠ some 48) : backZ l = l := by
 rcases List.eq_nil_or_concat l with rfl | ⟨m, c, rfl⟩
 ·rfl
 ·simp only [List.concat_eq_append] at h ⊢
  rw [List.getLast?_concat] at h
  unfold backZ
  rw [List.reverse_append, List.reverse_singleton, List.singleton_append, List.dropWhile_cons, if_neg (by intro e; exact h (by rw [of_decide_eq_true e])), List.reverse_cons, List.reverse_reverse]
theorem backZ_step {l : List Nat} (h : l.getLast? = some 48) : backZ l.dropLast = backZ l := by
 rcases List.eq_nil_or_concat l with rfl | ⟨m, c, rfl⟩
 ·cases h
 ·simp only [List.concat_eq_append] at h ⊢
  rw [List.getLast?_concat] at h
  cases h
  rw [List.dropLast_concat]
  unfold backZ
  rw [List.reverse_append, List.reverse_singleton, List.singleton_append, List.dropWhile_cons, if_pos (show isZ 48 = true from rfl)]
theorem frontZ_stop {l : List Nat} (h : l.head? ≠ some 48) : frontZ l = l := by
 cases l with
 | nil => rfl
 | cons a l =>
  unfold frontZ
  rw [List.dropWhile_cons, if_neg (by intro e; exact h (by rw [List.head?_cons, of_decide_eq_true e]))]
theorem frontZ_step {l : List Nat} (h : l.head? = some 48) : frontZ l.tail = frontZ l := by
 cases l with
 | nil => cases h
 | cons a l => cases h; rfl
end Lx
theorem readR_num {l m : List Nat} {neg : Bool} (hu : Dc.unsign l = (neg, m)) (ho : onlyL (allL m) = true) : readR l =
  if Lx.frontZ (Dc.whole m ++ Lx.backZ (Dc.part m)) = [] then ⟨false, str [48], 0, 0⟩ else if okB neg (str (Lx.frontZ (Dc.whole m ++ Lx.backZ (Dc.part m)))) ((Lx.backZ (Dc.part m)).length : Int) = true then ⟨neg, str (Lx.frontZ (Dc.whole m ++ Lx.backZ (Dc.part m))), ((Lx.backZ (Dc.part m)).length : Int), 0⟩ else ⟨false, ⟨#[]⟩, 0, 7⟩ := by
 rw [readR_yes hu ho]
 unfold onlyL allL at ho
 obtain ⟨h1, h2⟩ := Lx.dig_append.1 (Bool.and_eq_true _ _ ▸ ho).1
 exact Lx.num_can neg _ _ h1 h2
theorem isEmpty_dec (s : ByteArray) : s.toList.isEmpty = decide (s.size = 0) := by
 by_cases h : s.size = 0
 ·rw [isEmpty_yes h, decide_eq_true h]
 ·rw [isEmpty_no (Nat.pos_of_ne_zero h), decide_eq_false h]
theorem only_parts {a b : ByteArray} {m : List Nat} (h : bts a = Dc.whole m /\ bts b = Dc.part m) {r1 r2 : Bool} (h1 : (bts a).all Dc.dig = r1) (h2 : (bts b).all Dc.dig = r2) : onlyL (allL m) = (r1 && r2 && !(decide (a.size = 0) && decide (b.size = 0))) := by
 unfold onlyL allL
 rw [<- h.1, <- h.2, List.all_append, h1, h2, List.length_append, bts_length, bts_length]
 congr 1
 by_cases ha : a.size = 0 <;> by_cases hb : b.size = 0 <;> simp [ha, hb]
def signB (s : ByteArray) : Bool := decide ((bts s).head? = some 45) || decide ((bts s).head? = some 43)
theorem xnumber_is (s : ByteArray) (hs : s.size <= 1000) (w : World) : Calls Tryz.prog 28 #[.string s] w fun e w' => e = (readR (bts s)).ret /\ Below w.heap.size w w' := by
 go_enter Tryz.func28, Tryz.ntmps28
 go_upto_region 2 with (refine wl_allocA rfl zero_dec rfl (fun W2 b2 hb => ?_); have hB := hb; clear hb)
 go_cut [22] (fun v wx => v = .bool (signB s) /\ wx = W2)
 case first =>
  by_cases he : s.size = 0
  ·have e1 := isEmpty_yes he
   have hs0 : signB s = false := by unfold signB; rw [show bts s = [] from List.length_eq_zero_iff.1 (by rw [bts_length]; exact he)]; rfl
   have HS := Lib.hid hs0
   clear he hs0
   go_wp2
   go_meet
   case rel => exact ⟨by rw [HS.out]; try simp, rfl⟩
  ·have hp : 0 < s.size := Nat.pos_of_ne_zero he
   have e1 := isEmpty_no hp
   obtain ⟨c, hc⟩ : ∃ c, (s[0]'hp).toNat = c := ⟨_, rfl⟩
   have hh : (bts s).head? = some c := by rw [List.head?_eq_getElem?, List.getElem?_eq_getElem (by rw [bts_length]; exact hp), bts_get s 0 hp, hc]
   have HS := Lib.hid (show signB s = (decide (c = 45) || decide (c = 43)) by unfold signB; rw [hh]; simp)
   clear hh he
   by_cases h1 : c = 43
   ·subst h1
    go_wp2
    go_meet
    case rel => exact ⟨by rw [HS.out]; try simp, rfl⟩
   ·have d1 : ((c : Int) == 43) = false := beq_no h1
    by_cases h2 : c = 45
    ·subst h2
     clear h1
     go_wp2
     go_meet
     case rel => exact ⟨by rw [HS.out]; try simp, rfl⟩
    ·have d2 : ((c : Int) == 45) = false := beq_no h2
     have HS2 := Lib.hid (show signB s = false by rw [HS.out, decide_eq_false h1, decide_eq_false h2]; rfl)
     clear h1 h2 HS
     go_wp2
     go_meet
     case rel => exact ⟨by rw [HS2.out]; try simp, rfl⟩
 case rest =>
 obtain ⟨rfl, rfl⟩ := hcut
 go_upto_if 22 with fail
 go_cut [0, 4] (fun x v wx => ∃ (t : ByteArray) (neg : Bool), x = .string t /\ v = .bool neg /\ t.size <= 1000 /\ Hid (Dc.unsign (bts s) = (neg, bts t)) /\ wx = wc)
 case first =>
  cases hsg : signB s with
  | true =>
   have hmp : (bts s).head? = some 45 \/ (bts s).head? = some 43 := by unfold signB at hsg; simpa using hsg
   obtain ⟨c, hc2, hcc⟩ : ∃ c, (bts s).head? = some c /\ (c = 45 \/ c = 43) := by rcases hmp with h | h <;> exact ⟨_, h, by simp⟩
   obtain ⟨hp, hc⟩ := head_byte hc2
   obtain ⟨t, ht⟩ : ∃ t, s.extract 1 s.size = t := ⟨_, rfl⟩
   have htl : t.size <= 1000 := by rw [<- bts_length, <- ht, bts_tail, List.length_tail, bts_length]; omega
   have k1 : (1 : Int) <= (s.size : Int) := by omega
   have HU : Hid (Dc.unsign (bts s) = (decide (c = 45), bts t)) := Lib.hid (by
    rcases hcc with rfl | rfl
    ·rw [<- ht]; exact unsign_minus hc2
    ·rw [<- ht]; exact unsign_plus hc2)
   have hd : ((c : Int) == 45) = decide (c = 45) := by rcases hcc with rfl | rfl <;> rfl
   clear hsg hmp hc2 hcc
   go_wp2
   go_meet
   case rel => exact ⟨t, _, rfl, rfl, htl, HU, rfl⟩
  | false =>
   have hn : (bts s).head? ≠ some 45 /\ (bts s).head? ≠ some 43 := by unfold signB at hsg; simpa using hsg
   have HU : Hid (Dc.unsign (bts s) = (false, bts s)) := Lib.hid (unsign_none hn.1 hn.2)
   clear hsg hn
   go_wp2
   go_meet
   case rel => exact ⟨s, false, rfl, rfl, hs, HU, rfl⟩
 case rest =>
 obtain ⟨t, neg, rfl, rfl, htl, hu, rfl⟩ := hcut
 clear hs
 go_upto_block 0 with fail
 go_cut [5, 6] (fun x y wx => ∃ (a b : ByteArray), x = .string a /\ y = .string b /\ a.size <= 1000 /\ b.size <= 1000 /\ Hid (bts a = Dc.whole (bts t) /\ bts b = Dc.part (bts t)) /\ Blk wx w.heap.size 24 #[.bool false, .string ⟨#[]⟩, .int .i64 0] /\ Below w.heap.size w wx)
 case first =>
  go_wp2_with fail
  go_loopw [5, 6, 7, 8] (fun v u p i wr => ∃ (k : Nat) (a b : ByteArray) (q : Bool), k <= t.size /\ i = .int .i64 (k : Int) /\ v = .string a /\ u = .string b /\ p = .bool q /\ a.size <= 1000 /\ b.size <= 1000 /\ Hid (Cutt (bts t) k q (bts a) (bts b)) /\ Blk wr w.heap.size 24 #[.bool false, .string ⟨#[]⟩, .int .i64 0] /\ Below w.heap.size w wr) (fun _ _ _ i _ => t.size - (intOf i).toNat)
  case atStart => exact ⟨0, t, ⟨#[]⟩, false, Nat.zero_le _, rfl, rfl, rfl, rfl, htl, by decide, Lib.hid (.inl ⟨rfl, Nat.zero_le _, rfl, rfl⟩), b2, hB⟩
  case round =>
   clear b2 hB
   obtain ⟨k, a, b, q, hk, rfl, rfl, rfl, rfl, hal, hbl, hc0, b2, hB⟩ := hrel
   cases q with
   | true =>
    have HD := Lib.hid (hc0.out.done (.inl rfl))
    obtain ⟨p, hp⟩ : ∃ p, decide ((k : Int) < (t.size : Int)) = p := ⟨_, rfl⟩
    cases p
    all_goals clear hc0
    all_goals go_wp2
    all_goals go_meet
    all_goals exact ⟨a, b, rfl, rfl, hal, hbl, HD, b2, hB⟩
   | false =>
    by_cases hlt : k < t.size
    ·obtain ⟨c, hc⟩ : ∃ c, (t[k]'hlt).toNat = c := ⟨_, rfl⟩
     have hcd : Hid ((bts t).getD k 0 = c) := Lib.hid (by rw [<- hc, byte_eq hlt]; rfl)
     by_cases hpt : c = 46
     ·subst hpt
      have hs2 := Lib.hid (hc0.out.found hcd.out (by rw [bts_length]; exact hlt))
      obtain ⟨x, hx⟩ : ∃ x, t.extract 0 k = x := ⟨_, rfl⟩
      obtain ⟨y, hy⟩ : ∃ y, t.extract (k + 1) t.size = y := ⟨_, rfl⟩
      have hbx : bts x = (bts t).take k := by rw [<- hx, bts_extract, List.drop_zero]
      have hby : bts y = (bts t).drop (k + 1) := by rw [<- hy, bts_from]
      have hxl : x.size <= 1000 := by rw [<- bts_length, hbx, List.length_take]; omega
      have hyl : y.size <= 1000 := by rw [<- bts_length, hby, List.length_drop, bts_length]; omega
      have hs3 : Hid (Cutt (bts t) (k + 1) true (bts x) (bts y)) := Lib.hid (by rw [hbx, hby]; exact hs2.out)
      have k0 : (0 : Int) <= (k : Int) := by omega
      have k1 : (k : Int) <= (t.size : Int) := by omega
      have k2 : (k : Int) + 1 <= (t.size : Int) := by omega
      clear hcd hc0 hbx hby hs2
      go_wp2
      go_quiet (fail)
      go_wp2
      go_roundw
      case rel => exact ⟨k + 1, x, y, true, by omega, by simp, rfl, rfl, rfl, hxl, hyl, hs3, b2.drewN _, below_drewN hB _⟩
      case measure => simp [intOf]; omega
     ·have d : ((c : Int) == 46) = false := beq_no hpt
      have hs2 := Lib.hid (hc0.out.next (by rw [hcd.out]; exact hpt) (by rw [bts_length]; exact hlt))
      clear hcd hc0 hpt
      go_wp2
      go_roundw
      case rel => exact ⟨k + 1, a, b, false, by omega, by simp, rfl, rfl, rfl, hal, hbl, hs2, b2, hB⟩
      case measure => simp [intOf]; omega
    ·have HD := Lib.hid (hc0.out.done (.inr (by rw [bts_length]; omega)))
     clear hc0
     go_wp2
     go_meet
     exact ⟨a, b, rfl, rfl, hal, hbl, HD, b2, hB⟩
 case rest =>
 clear b2 hB
 obtain ⟨a, b, rfl, rfl, hal, hbl, HD, b2, hB⟩ := hcut
 obtain ⟨r1, hr1⟩ : ∃ r, (bts a).all Dc.dig = r := ⟨_, rfl⟩
 obtain ⟨r2, hr2⟩ : ∃ r, (bts b).all Dc.dig = r := ⟨_, rfl⟩
 obtain ⟨ea, hea⟩ : ∃ r, decide (a.size = 0) = r := ⟨_, rfl⟩
 obtain ⟨eb, heb⟩ : ∃ r, decide (b.size = 0) = r := ⟨_, rfl⟩
 have HO := Lib.hid (only_parts HD.out hr1 hr2)
 have C1 := Lib.hid (xdigits_r a (by omega) r1 hr1)
 have C2 := Lib.hid (xdigits_r b (by omega) r2 hr2)
 rw [hea, heb] at HO
 have EA := isEmpty_dec a
 have EB := isEmpty_dec b
 rw [hea] at EA
 rw [heb] at EB
 clear hr1 hr2 hea heb
 go_upto_region 11 with fail
 go_cut [65] (fun v wx => v = .bool (!onlyL (allL (bts t))) /\ wx = wc)
 case first =>
  cases r1 <;> cases r2 <;> cases ea <;> cases eb
  all_goals have tok1 : True := trivial
  all_goals go_wp2_with (first
   | (go_at_call 56; have _t := tok1; refine (C1.out _).mono ?_; rintro e w4 ⟨rfl, rfl⟩; clear tok1 _t)
   | (go_at_call 56; refine (C2.out _).mono ?_; rintro e w4 ⟨rfl, rfl⟩))
  all_goals go_meet
  all_goals exact ⟨by rw [HO.out]; try rfl, rfl⟩
 case rest =>
 obtain ⟨rfl, rfl⟩ := hcut
 clear C1 C2 HO EA EB
 cases ho : onlyL (allL (bts t)) with
 | false =>
  have HR := Lib.hid (readR_no hu.out ho)
  clear ho
  go_wp2_with (refine wl_storeA b2 rfl _ _ rfl rfl rfl (by kernel_rfl) rfl rfl rfl (fun W8 b8 hg => ?_); have hB8 := below_far hB hB.size (Nat.le_refl _) hg; clear hg)
  exact bodyPost_ret (res_cell_tmp rfl b8 (by kernel_rfl) rfl rfl) rfl ⟨by rw [HR.out]; rfl, hB8⟩
 | true =>
  have HN := Lib.hid (readR_num hu.out ho)
  rw [<- HD.out.1, <- HD.out.2] at HN
  clear ho
  go_upto_block 2 with fail
  go_cut [6] (fun y wx => ∃ (c : ByteArray), y = .string c /\ c.size <= 1000 /\ Hid (Lx.backZ (bts b) = bts c) /\ wx = wc)
  case first =>
   go_wp2_with fail
   go_loopw [6] (fun y wr => ∃ (c : ByteArray), y = .string c /\ c.size <= 1000 /\ Hid (Lx.backZ (bts c) = Lx.backZ (bts b)) /\ wr = wc) (fun y _ => match y with | .string c => c.size | _ => 0)
   case atStart => exact ⟨b, rfl, hbl, Lib.hid rfl, rfl⟩
   case round =>
    obtain ⟨c, rfl, hcl, hcz, rfl⟩ := hrel
    by_cases h0 : c.size = 0
    ·have e1 := isEmpty_yes h0
     have HC : Hid (Lx.backZ (bts b) = bts c) := Lib.hid (by rw [<- hcz.out]; exact Lx.backZ_stop (by rw [show bts c = [] from List.length_eq_zero_iff.1 (by rw [bts_length]; exact h0)]; intro h; cases h))
     clear h0 hcz
     go_wp2
     go_meet
     exact ⟨c, rfl, hcl, HC, rfl⟩
    ·have e1 := isEmpty_no (Nat.pos_of_ne_zero h0)
     obtain ⟨n, hn⟩ : ∃ n, c.size = n + 1 := ⟨c.size - 1, by omega⟩
     have hlt : n < c.size := by omega
     obtain ⟨z, hz⟩ : ∃ z, (c[n]'hlt).toNat = z := ⟨_, rfl⟩
     have hla : (bts c).getLast? = some z := by rw [List.getLast?_eq_getElem?, bts_length, hn, Nat.add_sub_cancel, List.getElem?_eq_getElem (by rw [bts_length]; exact hlt), bts_get c n hlt, hz]
     by_cases h48 : z = 48
     ·subst h48
      obtain ⟨x, hx⟩ : ∃ x, c.extract 0 n = x := ⟨_, rfl⟩
      have hbx : bts x = (bts c).dropLast := by rw [<- hx, bts_extract, List.drop_zero, List.dropLast_eq_take, bts_length, hn, Nat.add_sub_cancel]
      have hxl : x.size = n := by rw [<- bts_length, hbx, List.length_dropLast, bts_length, hn, Nat.add_sub_cancel]
      have HC : Hid (Lx.backZ (bts x) = Lx.backZ (bts b)) := Lib.hid (by rw [hbx, Lx.backZ_step hla]; exact hcz.out)
      have hxm : x.size < c.size := by omega
      have hxk : x.size <= 1000 := by omega
      have HX := Lib.hid hxm
      clear hbx hxl hla hcz h0 hxm
      go_wp2
      go_roundw
      case rel => exact ⟨x, rfl, hxk, HC, by trivial⟩
      case measure => have := HX.out; omega
     ·have d : ((z : Int) == 48) = false := beq_no h48
      have HC : Hid (Lx.backZ (bts b) = bts c) := Lib.hid (by rw [<- hcz.out]; exact Lx.backZ_stop (by rw [hla]; intro h; cases h; exact h48 rfl))
      clear hla hcz h0 h48
      go_wp2
      go_meet
      exact ⟨c, rfl, hcl, HC, rfl⟩
  case rest =>
  obtain ⟨c, rfl, hcl, HC, rfl⟩ := hcut
  rw [HC.out] at HN
  clear HC hbl
  go_upto_block 4 with fail
  go_cut [9] (fun y wx => ∃ (d : ByteArray), y = .string d /\ d.size <= 2000 /\ Hid (Lx.frontZ (bts a ++ bts c) = bts d) /\ wx = wc)
  case first =>
   go_wp2_with fail
   go_loopw [9] (fun y wr => ∃ (d : ByteArray), y = .string d /\ d.size <= 2000 /\ Hid (Lx.frontZ (bts d) = Lx.frontZ (bts a ++ bts c)) /\ wr = wc) (fun y _ => match y with | .string c => c.size | _ => 0)
   case atStart => exact ⟨a ++ c, rfl, by rw [<- bts_length, str_add, List.length_append, bts_length, bts_length]; omega, Lib.hid (by rw [str_add]), rfl⟩
   case round =>
    obtain ⟨d, rfl, hdl, hdz, rfl⟩ := hrel
    by_cases h0 : d.size = 0
    ·have k0 : d.size <= 0 := by omega
     have HC : Hid (Lx.frontZ (bts a ++ bts c) = bts d) := Lib.hid (by rw [<- hdz.out]; exact Lx.frontZ_stop (by rw [show bts d = [] from List.length_eq_zero_iff.1 (by rw [bts_length]; exact h0)]; intro h; cases h))
     clear h0 hdz
     go_wp2
     go_meet
     exact ⟨d, rfl, hdl, HC, rfl⟩
    ·have hp : 0 < d.size := Nat.pos_of_ne_zero h0
     obtain ⟨z, hz⟩ : ∃ z, (d[0]'hp).toNat = z := ⟨_, rfl⟩
     have hh : (bts d).head? = some z := by rw [List.head?_eq_getElem?, List.getElem?_eq_getElem (by rw [bts_length]; exact hp), bts_get d 0 hp, hz]
     by_cases h48 : z = 48
     ·subst h48
      obtain ⟨x, hx⟩ : ∃ x, d.extract 1 d.size = x := ⟨_, rfl⟩
      have hbx : bts x = (bts d).tail := by rw [<- hx, bts_tail]
      have hxl : x.size = d.size - 1 := by rw [<- bts_length, hbx, List.length_tail, bts_length]
      have HC : Hid (Lx.frontZ (bts x) = Lx.frontZ (bts a ++ bts c)) := Lib.hid (by rw [hbx, Lx.frontZ_step hh]; exact hdz.out)
      have hxm : x.size < d.size := by omega
      have hxk : x.size <= 2000 := by omega
      have k1 : (1 : Int) <= (d.size : Int) := by omega
      have HX := Lib.hid hxm
      clear hbx hxl hh hdz h0 hxm
      go_wp2
      go_roundw
      case rel => exact ⟨x, rfl, hxk, HC, by trivial⟩
      case measure => have := HX.out; omega
     ·have d0 : ((z : Int) == 48) = false := beq_no h48
      have HC : Hid (Lx.frontZ (bts a ++ bts c) = bts d) := Lib.hid (by rw [<- hdz.out]; exact Lx.frontZ_stop (by rw [hh]; intro h; cases h; exact h48 rfl))
      clear hh hdz h0 h48
      go_wp2
      go_meet
      exact ⟨d, rfl, hdl, HC, rfl⟩
  case rest =>
  obtain ⟨d, rfl, hdl, HC, rfl⟩ := hcut
  rw [HC.out, bts_length, str_bts] at HN
  clear HC
  by_cases h0 : d.size = 0
  ·have e1 := isEmpty_yes h0
   have HR : Hid (readR (bts s) = ⟨false, str [48], 0, 0⟩) := Lib.hid (by rw [HN.out, if_pos (List.length_eq_zero_iff.1 (by rw [bts_length]; exact h0))])
   clear h0 HN
   go_wp2_with (refine wl_storeA b2 rfl _ _ rfl rfl rfl (by kernel_rfl) rfl rfl rfl (fun W8 b8 hg => ?_); have hB8 := below_far hB hB.size (Nat.le_refl _) hg; clear hg)
   exact bodyPost_ret (res_cell_tmp rfl b8 (by kernel_rfl) rfl rfl) rfl ⟨by rw [HR.out]; rfl, hB8⟩
  ·have e1 := isEmpty_no (Nat.pos_of_ne_zero h0)
   obtain ⟨k, hk⟩ : ∃ k, ckI neg d (c.size : Int) = k := ⟨_, rfl⟩
   have HK := Lib.hid (rcheck_any neg d (c.size : Int) (by omega))
   rw [hk] at HK
   have HR : Hid (readR (bts s) = if okB neg d (c.size : Int) = true then ⟨neg, d, (c.size : Int), 0⟩ else ⟨false, ⟨#[]⟩, 0, 7⟩) := Lib.hid (by rw [HN.out, if_neg (fun h => h0 (by rw [<- bts_length, h]; rfl))])
   clear h0 HN
   cases hkb : okB neg d (c.size : Int) with
   | true =>
    rw [ck_yes hkb] at hk
    subst hk
    rw [if_pos hkb] at HR
    clear hkb
    have hlt := b2.lt
    go_wp2_with (first
     | (refine wl_allocA rfl zero_dec rfl (fun W3 b3 hb => ?_); replace hB := below_step hB hb; replace b2 := b2.keep hb; clear hb)
     | (refine wl_storeA b3 rfl _ _ rfl rfl rfl (by kernel_rfl) rfl rfl rfl (fun W4 b4 hg => ?_); have hB4 := below_far hB hB.size (Nat.le_of_lt hlt) hg; replace b2 := b2.far hg (Nat.ne_of_lt hlt); clear hg)
     | (refine wl_loadA b4 rfl (by kernel_rfl) _ rfl rfl ?_)
     | (go_at_call 39; refine (HK.out _).mono ?_; rintro e w5 ⟨rfl, hb⟩; replace hB4 := below_step hB4 hb; replace b2 := b2.keep hb; replace b4 := b4.keep hb; clear hb)
     | (refine wl_storeA b2 rfl _ _ rfl rfl rfl (by kernel_rfl) rfl rfl rfl (fun W8 b8 hg => ?_); have hB8 := below_far hB4 hB4.size (Nat.le_refl _) hg; clear hg))
    exact bodyPost_ret (res_cell_tmp rfl b8 (by kernel_rfl) rfl rfl) rfl ⟨by rw [HR.out]; rfl, hB8⟩
   | false =>
    rw [ck_no hkb] at hk
    subst hk
    rw [if_neg (by rw [hkb]; decide)] at HR
    clear hkb
    have hlt := b2.lt
    go_wp2_with (first
     | (refine wl_allocA rfl zero_dec rfl (fun W3 b3 hb => ?_); replace hB := below_step hB hb; replace b2 := b2.keep hb; clear hb)
     | (refine wl_storeA b3 rfl _ _ rfl rfl rfl (by kernel_rfl) rfl rfl rfl (fun W4 b4 hg => ?_); have hB4 := below_far hB hB.size (Nat.le_of_lt hlt) hg; replace b2 := b2.far hg (Nat.ne_of_lt hlt); clear hg)
     | (refine wl_loadA b4 rfl (by kernel_rfl) _ rfl rfl ?_)
     | (go_at_call 39; refine (HK.out _).mono ?_; rintro e w5 ⟨rfl, hb⟩; replace hB4 := below_step hB4 hb; replace b2 := b2.keep hb; replace b4 := b4.keep hb; clear hb)
     | (refine wl_storeA b2 rfl _ _ rfl rfl rfl (by kernel_rfl) rfl rfl rfl (fun W8 b8 hg => ?_); have hB8 := below_far hB4 hB4.size (Nat.le_refl _) hg; clear hg))
    exact bodyPost_ret (res_cell_tmp rfl b8 (by kernel_rfl) rfl rfl) rfl ⟨by rw [HR.out]; rfl, hB8⟩
end Go.Proofs.YthoojcdjjecogaaGreatDoor
namespace Go.Proofs.YthoojcdjjecogaaGreatDoor
open Go Go.RowKit

structure Ch (S : List Nat) (w w' : World) : Prop where
 os : w'.os = w.os
 tape : w'.tape = w.tape
 output : w'.output = w.output
 size : w.heap.size <= w'.heap.size
 block : ∀ k, k < w.heap.size -> k ∉ S -> w'.heap[k]? = w.heap[k]?
theorem Ch.refl (S : List Nat) (w : World) : Ch S w w := ⟨rfl, rfl, rfl, Nat.le_refl _, fun _ _ _ => rfl⟩
theorem Ch.trans {S : List Nat} {a b c : World} (h : Ch S a b) (k : Ch S b c) : Ch S a c :=
 ⟨k.os.trans h.os, k.tape.trans h.tape, k.output.trans h.output, Nat.le_trans h.size k.size, fun i hi hS => (k.block i (Nat.lt_of_lt_of_le hi h.size) hS).trans (h.block i hi hS)⟩
theorem Ch.mono {S T : List Nat} {a b : World} (h : Ch S a b) (hs : ∀ k ∈ S, k ∈ T) : Ch T a b := ⟨h.os, h.tape, h.output, h.size, fun k hk hT => h.block k hk (fun hS => hT (hs k hS))⟩
theorem Ch.ofBelow {S : List Nat} {w w' : World} (h : Below w.heap.size w w') : Ch S w w' := ⟨h.os, h.tape, h.output, h.size, fun k hk _ => h.block k hk⟩
theorem Ch.ofGrown {S : List Nat} {g : Nat} {w w' : World} (h : w.grownBy w' (some g)) (hg : g ∈ S) : Ch S w w' := ⟨h.os, h.tape, h.output, h.size, fun k hk hS => h.block k hk (fun e => by cases e; exact hS hg)⟩
theorem Ch.below {S : List Nat} {B : Nat} {w w' : World} (h : Ch S w w') (hB : B <= w.heap.size) (hS : ∀ k ∈ S, B <= k) : Below B w w' :=
 ⟨h.os, h.tape, h.output, h.size, fun k hk => h.block k (by omega) (fun hm => by have := hS k hm; omega)⟩
theorem Ch.blk {S : List Nat} {w w' : World} {g : Nat} {t : TypeId} {cs : Array Value} (h : Ch S w w') (hb : Blk w g t cs) (hg : g ∉ S) : Blk w' g t cs := (h.block g hb.lt hg).trans hb
theorem Ch.set {S : List Nat} {w w' : World} {g : Nat} (h : Ch S w w') (hg : g ∈ S) (j : Nat) (v : Value) : Ch S w (w'.setCell ⟨g, j, none⟩ v) :=
 h.trans ⟨rfl, rfl, rfl, by simp [World.setCell], fun k _ hS => Below.heap_setCell _ _ _ _ (fun e => hS (by rw [e]; exact hg))⟩
theorem Ch.alloc {S : List Nat} {w w' : World} (h : Ch S w w') (o : Obj) : Ch S w (w'.alloc o) := h.trans (Ch.ofBelow (below_new _ _))
theorem Blk.set {w : World} {g : Nat} {t : TypeId} {cs : Array Value} (hb : Blk w g t cs) (j : Nat) (v : Value) : Blk (w.setCell ⟨g, j, none⟩ v) g t (cs.setIfInBounds j v) := by
 show (w.heap.modify g _)[g]? = _
 have hk := Array.getElem?_eq_some_iff.1 hb
 rw [Array.getElem?_eq_getElem (by rw [Array.size_modify]; exact hk.1), Array.getElem_modify_self, hk.2]
 rfl
theorem Blk.other {w : World} {g h : Nat} {t : TypeId} {cs : Array Value} (hb : Blk w g t cs) (hn : g ≠ h) (j : Nat) (v : Value) : Blk (w.setCell ⟨h, j, none⟩ v) g t cs :=
 (Below.heap_setCell w ⟨h, j, none⟩ v g hn).trans hb
def Left (o : Option (List Nat)) (s : ByteArray) (q : Bool) : Prop := s.size <= 300 /\ match o with
 | some l => q = false /\ bts s = l
 | none => q = true
def putL (cs : Array Value) (o : Nat) : List Value -> Array Value
 | [] => cs
 | v :: vs => putL (cs.setIfInBounds o v) (o + 1) vs
theorem blk_setCells {g : Nat} {t : TypeId} : ∀ (vs : List Value) {w : World} {cs : Array Value} (o : Nat), Blk w g t cs -> Blk (w.setCells g o vs) g t (putL cs o vs) /\ w.grownBy (w.setCells g o vs) (some g)
 | [], w, cs, o, h => ⟨h, ⟨rfl, rfl, rfl, Nat.le_refl _, fun _ _ _ => rfl⟩⟩
 | v :: vs, w, cs, o, h => by
  have h1 := h.set o v
  obtain ⟨a, b⟩ := blk_setCells vs (o + 1) h1
  have b1 : w.grownBy (w.setCell ⟨g, o, none⟩ v) (some g) := ⟨rfl, rfl, rfl, by simp [World.setCell], fun k _ hne => Below.heap_setCell _ _ _ _ (fun e => hne (by rw [e]))⟩
  exact ⟨a, ⟨b.os.trans b1.os, b.tape.trans b1.tape, b.output.trans b1.output, Nat.le_trans b1.size b.size, fun k hk hne => (b.block k (Nat.lt_of_lt_of_le hk b1.size) hne).trans (b1.block k hk hne)⟩⟩
theorem wl_storeM {ops : Array Oper} {o : Oper} {a : Act} {w : World} {Q : Exit -> Act -> World -> Prop} {rest : List Oper} {g : Nat} {t ty : TypeId} {cs : Array Value} (hb : Blk w g t cs) (hg : o.guard = none) {j : Nat} {xs : Array Value} (x y : Operand) (ho : o.op = .store ty x y) (hx : a.eval x = .pointer (some ⟨g, j, none⟩)) (hy : a.eval y = .agg xs)
  (ha : aggT ty xs.size = true) (hj : j + xs.size <= cs.size) (h1 : xs.toList.all (·.oneCell') = true) (hd : o.dst = none) (h : ∀ W, Blk W g t (putL cs j xs.toList) -> w.grownBy W (some g) -> wpList Tryz.prog ops Q rest a W) : wpList Tryz.prog ops Q (o :: rest) a w := by
 refine wpList_store_mid hg ty x y ho g j xs hx hy (fun i hi => ⟨?_, hb.free _⟩) (aggT_size ha) (by rw [<- Array.all_toList]; exact h1) ?_
 ·rw [hb.cell, Array.getElem?_eq_getElem (by omega)]; rfl
 ·rw [hd]
  obtain ⟨b1, b2⟩ := blk_setCells xs.toList j hb
  exact h _ b1 b2

def RR (w : World) (b : Nat) (s : ByteArray) (q : Bool) : Prop := Blk w b 92 #[.string s, .bool q]
theorem RR.c0 {w : World} {b : Nat} {s : ByteArray} {q : Bool} (h : RR w b s q) : w.cell? ⟨b, 0, none⟩ = some (.string s) := h.at rfl
theorem RR.c1 {w : World} {b : Nat} {s : ByteArray} {q : Bool} (h : RR w b s q) : w.cell? ⟨b, 1, none⟩ = some (.bool q) := h.at rfl
theorem RR.f0 {w : World} {b : Nat} {s : ByteArray} {q : Bool} (h : RR w b s q) (j : Nat) : w.frozen? ⟨b, j, none⟩ = false := Blk.free h j
theorem RR.put {w : World} {b : Nat} {s : ByteArray} {q : Bool} (h : RR w b s q) (t : ByteArray) : RR (w.setCell ⟨b, 0, none⟩ (.string t)) b t q := Blk.set h 0 (.string t)
theorem RR.mark {w : World} {b : Nat} {s : ByteArray} {q : Bool} (h : RR w b s q) (r : Bool) : RR (w.setCell ⟨b, 1, none⟩ (.bool r)) b s r := Blk.set h 1 (.bool r)
theorem bts_head {s : ByteArray} (h : 0 < s.size) : bts s = (s[0]'h).toNat :: (bts s).tail := by
 have hl : 0 < (bts s).length := by rw [bts_length]; exact h
 have e := bts_get s 0 h
 cases hb : bts s with
 | nil => rw [hb] at hl; cases hl
 | cons a l =>
  simp only [hb, List.getElem_cons_zero] at e
  rw [e]; rfl
theorem bts_take1 {s : ByteArray} (h : 0 < s.size) : bts (s.extract 0 1) = [(s[0]'h).toNat] := by
 rw [bts_extract, List.drop_zero, bts_head h]; rfl
theorem bts_none {s : ByteArray} (h : s.size = 0) : bts s = [] := List.length_eq_zero_iff.1 ((bts_length s).trans h)
theorem ris_is (b : Nat) (s : ByteArray) (q : Bool) (c : UInt8) (w : World) (hb : RR w b s q) (hs : s.size <= 300) : Calls Tryz.prog 59 #[.pointer (some ⟨b, 0, none⟩), .string ⟨#[c]⟩] w fun e w' => ∃ t : ByteArray, e = .returned (.bool (Mo.hasP c.toNat (bts s)).1) /\ bts t = (Mo.hasP c.toNat (bts s)).2 /\ t.size <= s.size /\ RR w' b t q /\ Ch [b] w w' := by
 have c0 := hb.c0
 have f0 := hb.f0 0
 by_cases h0 : s.size = 0
 ·have e := bts_none h0
  have hz : (s.size : Int) < 1 := by omega
  go_enter Tryz.func59, Tryz.ntmps59
  go_wp2
  go_ret
  exact ⟨s, by rw [e]; rfl, by rw [e]; rfl, Nat.le_refl _, hb, Ch.refl _ _⟩
 ·have hp : 0 < s.size := by omega
  have e := bts_head hp
  obtain ⟨x, hx⟩ : ∃ x, s.extract 0 1 = x := ⟨_, rfl⟩
  have hxb : bts x = [(s[0]'hp).toNat] := by rw [<- hx]; exact bts_take1 hp
  have k1 : (1 : Int) <= (s.size : Int) := by omega
  by_cases hc : (s[0]'hp).toNat = c.toNat
  ·have hm : (x.toList == [c]) = true := by rw [word_beq, hxb, hc]; simp
   obtain ⟨t, ht⟩ : ∃ t, s.extract 1 s.size = t := ⟨_, rfl⟩
   have htb : bts t = (bts s).tail := by rw [<- ht, bts_tail]
   have hts : t.size <= s.size := by rw [<- bts_length, htb, List.length_tail, bts_length]; omega
   have HT : Hid (bts t = (bts s).tail) := Lib.hid htb
   have HE : Hid (bts s = (s[0]'hp).toNat :: (bts s).tail) := Lib.hid e
   clear htb e hxb
   go_enter Tryz.func59, Tryz.ntmps59
   go_wp2
   go_ret
   have e2 : Mo.hasP c.toNat (bts s) = (true, (bts s).tail) := by rw [HE.out, hc]; exact Mo.hasP_yes _ _
   exact ⟨t, by rw [e2]; rfl, by rw [e2]; exact HT.out, hts, hb.put t, (Ch.refl _ _).set (by simp) _ _⟩
  ·have hm : (x.toList == [c]) = false := by rw [word_beq, hxb]; simp [hc]
   have HE : Hid (bts s = (s[0]'hp).toNat :: (bts s).tail) := Lib.hid e
   clear e hxb
   go_enter Tryz.func59, Tryz.ntmps59
   go_wp2
   go_ret
   have e2 : Mo.hasP c.toNat (bts s) = (false, bts s) := by rw [HE.out]; exact Mo.hasP_no _ hc
   exact ⟨s, by rw [e2]; rfl, by rw [e2], Nat.le_refl _, hb, Ch.refl _ _⟩
def RdO (w : World) (b : Nat) (o : Option (List Nat)) : Prop := ∃ s q, RR w b s q /\ Left o s q
theorem RdO.lt {w : World} {b : Nat} {o : Option (List Nat)} (h : RdO w b o) : b < w.heap.size := by
 obtain ⟨s, q, h, _⟩ := h
 exact Blk.lt h
theorem RdO.ch {S : List Nat} {w w' : World} {b : Nat} {o : Option (List Nat)} (h : RdO w b o) (hc : Ch S w w') (hb : b ∉ S) : RdO w' b o := by
 obtain ⟨s, q, h, hl⟩ := h
 exact ⟨s, q, hc.blk h hb, hl⟩
theorem ris_o (b : Nat) (o : Option (List Nat)) (c : UInt8) (w : World) (h : RdO w b o) : Calls Tryz.prog 59 #[.pointer (some ⟨b, 0, none⟩), .string ⟨#[c]⟩] w fun e w' => ∃ x : Bool, e = .returned (.bool x) /\ RdO w' b (o.map fun l => (Mo.hasP c.toNat l).2) /\ Ch [b] w w' /\ ∀ l, o = some l -> x = (Mo.hasP c.toNat l).1 := by
 obtain ⟨s, q, hb, hs, hl⟩ := h
 refine (ris_is b s q c w hb hs).mono ?_
 rintro e w' ⟨t, rfl, ht, hts, hb2, hc⟩
 refine ⟨_, rfl, ⟨t, q, hb2, by omega, ?_⟩, hc, ?_⟩
 ·cases o with
  | none => exact hl
  | some l => obtain ⟨h1, h2⟩ := hl; exact ⟨h1, by rw [ht, h2]⟩
 ·rintro l rfl
  rw [hl.2]
theorem want_has (c : Nat) (l : List Nat) : Mo.wantP c l = if (Mo.hasP c l).1 then some (Mo.hasP c l).2 else none := by
 cases l with
 | nil => rfl
 | cons a r =>
  unfold Mo.wantP Mo.hasP
  by_cases h : a = c <;> simp [h]
theorem rwant_o (b : Nat) (o : Option (List Nat)) (c : UInt8) (w : World) (h : RdO w b o) : Calls Tryz.prog 61 #[.pointer (some ⟨b, 0, none⟩), .string ⟨#[c]⟩] w fun e w' => e = .returned (.tuple #[]) /\ RdO w' b (o.bind (Mo.wantP c.toNat)) /\ Ch [b] w w' := by
 have CI := Lib.hid (ris_o b o c w h)
 clear h
 go_enter Tryz.func61, Tryz.ntmps61
 go_wp2_with fail
 refine (CI.out).mono ?_
 clear CI
 rintro e w1 ⟨x, rfl, hr, hc, hx⟩
 have HX := Lib.hid hx
 clear hx
 obtain ⟨s, q, hb, hs, hl⟩ := hr
 have HL := Lib.hid hl
 clear hl
 have c1 := hb.c1
 have f1 := hb.f0 1
 cases x with
 | true =>
  go_wp2
  go_end0
  refine ⟨rfl, ⟨s, q, hb, hs, ?_⟩, hc⟩
  cases o with
  | none => exact HL.out
  | some l =>
   have e := HX.out l rfl
   show match Mo.wantP c.toNat l with | some l => q = false /\ bts s = l | none => q = true
   rw [want_has, <- e]
   exact HL.out
 | false =>
  go_wp2
  go_end0
  refine ⟨rfl, ⟨s, true, hb.mark true, hs, ?_⟩, hc.set (by simp) _ _⟩
  cases o with
  | none => rfl
  | some l =>
   have e := HX.out l rfl
   show match Mo.wantP c.toNat l with | some l => true = false /\ bts s = l | none => true = true
   rw [want_has, <- e]
   rfl
def NumRes (q r : Bool) (v : Nat) (t : ByteArray) : Option (Nat × List Nat) -> Prop
 | some p => r = q /\ v = p.1 /\ bts t = p.2
 | none => r = true
theorem num_none {m k : Nat} {l : List Nat} (hk : k < m) (h : ∀ c r, l.drop k = c :: r -> Dc.dig c = false) : Mo.numP m l = none := by
 unfold Mo.numP
 rw [if_neg]
 rintro ⟨h1, h2⟩
 have hk2 : k < l.length := by omega
 have e := List.drop_eq_getElem_cons hk2
 have h3 := h _ _ e
 have h4 : l[k] ∈ l.take m := by
  rw [List.mem_take_iff_getElem]
  exact ⟨k, by omega, rfl⟩
 have := List.all_eq_true.1 h2 _ h4
 rw [this] at h3; cases h3
theorem rnumber_is (b : Nat) (s : ByteArray) (q : Bool) (m : Nat) (hm : m <= 4) (w : World) (hb : RR w b s q) (hs : s.size <= 300) : Calls Tryz.prog 60 #[.pointer (some ⟨b, 0, none⟩), .int .i64 (m : Int)] w fun e w' => ∃ (v : Nat) (t : ByteArray) (r : Bool), e = .returned (.int .i64 (v : Int)) /\ v < 10000 /\ t.size <= 300 /\ RR w' b t r /\ Ch [b] w w' /\ NumRes q r v t (Mo.numP m (bts s)) := by
 go_enter Tryz.func60, Tryz.ntmps60
 go_wp2
 go_loopw [5, 6] (fun n i wr => ∃ (k v : Nat) (t : ByteArray), k <= m /\ i = .int .i64 (k : Int) /\ n = .int .i64 (v : Int) /\ v < 10 ^ k /\ t.size <= 300 /\ Hid (bts t = (bts s).drop k /\ k <= s.size /\ ((bts s).take k).all Dc.dig = true /\ v = Dc.val ((bts s).take k)) /\ RR wr b t q /\ Ch [b] w wr) (fun _ i _ => m - (intOf i).toNat)
 case atStart => exact ⟨0, 0, s, Nat.zero_le _, rfl, rfl, by decide, hs, Lib.hid ⟨rfl, Nat.zero_le _, rfl, rfl⟩, hb, Ch.refl _ _⟩
 case round =>
  clear hb
  obtain ⟨k, v, t, hk, rfl, rfl, hv, hts, ht, hb, hc⟩ := hrel
  have c0 := hb.c0
  have c1 := hb.c1
  have f0 := hb.f0 0
  have f1 := hb.f0 1
  by_cases hlt : k < m
  ·have hk3 : 10 ^ k <= 1000 := Nat.le_trans (Nat.pow_le_pow_right (by decide) (by omega : k <= 3)) (by decide)
   have hv3 : v < 1000 := by omega
   have hp10 : Hid (10 ^ (k + 1) = 10 ^ k * 10) := Lib.hid (Nat.pow_succ _ _)
   have HV : Hid (v < 10 ^ k) := Lib.hid hv
   clear hv hk3
   by_cases h0 : t.size = 0
   ·have he := isEmpty_yes h0
    have hno := Lib.hid (num_none (l := bts s) hlt (by rw [<- ht.out.1, bts_none h0]; intro c r e; cases e))
    clear h0 ht
    go_wp2
    go_ret
    exact ⟨0, t, true, rfl, by decide, hts, hb.mark true, hc.set (by simp) _ _, by rw [hno.out]; rfl⟩
   ·have hp : 0 < t.size := by omega
    have he := isEmpty_no hp
    have hh := Lib.hid (bts_head hp)
    obtain ⟨c, hcc⟩ : ∃ c, (t[0]'hp).toNat = c := ⟨_, rfl⟩
    have hz : (0 : Int) < (t.size : Int) := by omega
    by_cases hd : 48 <= c /\ c <= 57
    ·obtain ⟨d1, d2⟩ := hd
     obtain ⟨x, hx⟩ : ∃ x, t.extract 1 t.size = x := ⟨_, rfl⟩
     have hxb := Lib.hid (show bts x = (bts t).tail by rw [<- hx, bts_tail])
     have hxs : x.size <= 300 := by rw [<- bts_length, hxb.out, List.length_tail, bts_length]; omega
     obtain ⟨y, hy⟩ : ∃ y : Nat, c = 48 + y := ⟨c - 48, by omega⟩
     have k1 : (1 : Int) <= (t.size : Int) := by omega
     have e1 : (c : Int) - 48 = (y : Int) := by omega
     have g1 : decide ((c : Int) < 48) = false := decide_eq_false (by omega)
     have g2 : decide (57 < (c : Int)) = false := decide_eq_false (by omega)
     have hy9 : y <= 9 := by omega
     have HY := Lib.hid hy
     obtain ⟨u, hu⟩ : ∃ u : Nat, u = v * 10 + y := ⟨_, rfl⟩
     have hui : (v : Int) * 10 + (y : Int) = (u : Int) := by omega
     have hu4 : u < 10000 := by omega
     have HU := Lib.hid hu
     have ht2 : Hid (bts x = (bts s).drop (k + 1) /\ k + 1 <= s.size /\ ((bts s).take (k + 1)).all Dc.dig = true /\ u = Dc.val ((bts s).take (k + 1))) := Lib.hid (by
      obtain ⟨q1, q2, q3, q4⟩ := ht.out
      have hlen : (bts t).length = (bts s).length - k := by rw [q1, List.length_drop]
      rw [bts_length, bts_length] at hlen
      have hks : k < s.size := by omega
      have hks2 : k < (bts s).length := by rw [bts_length]; exact hks
      have e2 : (bts s).drop k = (bts s)[k] :: (bts s).drop (k + 1) := List.drop_eq_getElem_cons hks2
      have e3 : c :: (bts t).tail = (bts s)[k] :: (bts s).drop (k + 1) := by rw [<- e2, <- q1, hh.out, hcc]; rfl
      obtain ⟨e4, e5⟩ := List.cons.inj e3
      have e6 : (bts s).take (k + 1) = (bts s).take k ++ [c] := by rw [List.take_succ_eq_append_getElem hks2, <- e4]
      refine ⟨by rw [hxb.out, e5], by omega, ?_, ?_⟩
      ·rw [e6, List.all_append, q3]; simp [Dc.dig, d1, d2]
      ·rw [e6, Dc.val_snoc, <- q4, hu, hy]; omega)
     have hu2 : Hid (u < 10 ^ (k + 1)) := Lib.hid (by rw [hp10.out]; have := HV.out; omega)
     clear ht hh hxb hu hy
     go_wp2
     go_roundw
     case rel => exact ⟨k + 1, u, x, by omega, by simp, rfl, hu2.out, hxs, ht2, hb.put x, hc.set (by simp) _ _⟩
     case measure => simp [intOf]; omega
    ·have hno := Lib.hid (num_none (l := bts s) hlt (by
      rw [<- ht.out.1, hh.out, hcc]; intro c' r e
      cases e
      cases h : Dc.dig c with
      | false => rfl
      | true => exact absurd (Dc.dig_iff.1 h) hd))
     clear ht hh
     by_cases h1 : c < 48
     ·have g1 : decide ((c : Int) < 48) = true := decide_eq_true (by omega)
      clear hd h1
      go_wp2
      go_ret
      exact ⟨0, t, true, rfl, by decide, hts, hb.mark true, hc.set (by simp) _ _, by rw [hno.out]; rfl⟩
     ·have g1 : decide ((c : Int) < 48) = false := decide_eq_false (by omega)
      have g2 : decide (57 < (c : Int)) = true := decide_eq_true (by omega)
      clear hd h1
      go_wp2
      go_ret
      exact ⟨0, t, true, rfl, by decide, hts, hb.mark true, hc.set (by simp) _ _, by rw [hno.out]; rfl⟩
  ·obtain rfl : k = m := by omega
   have hr : Mo.numP k (bts s) = some (v, bts t) := by
    obtain ⟨q1, q2, q3, q4⟩ := ht.out
    unfold Mo.numP
    rw [if_pos ⟨by rw [bts_length]; exact q2, q3⟩, <- q4, <- q1]
   have hv4 : v < 10000 := Nat.lt_of_lt_of_le hv (Nat.le_trans (Nat.pow_le_pow_right (by decide) hm) (by decide))
   have HR := Lib.hid hr
   clear hr ht hv
   go_wp2
   go_ret
   exact ⟨v, t, q, rfl, hv4, hts, hb, hc, by rw [HR.out]; exact ⟨rfl, rfl, rfl⟩⟩
theorem rnumber_o (b : Nat) (o : Option (List Nat)) (m : Nat) (hm : m <= 4) (w : World) (h : RdO w b o) : Calls Tryz.prog 60 #[.pointer (some ⟨b, 0, none⟩), .int .i64 (m : Int)] w fun e w' => ∃ v : Nat, e = .returned (.int .i64 (v : Int)) /\ v < 10000 /\ RdO w' b ((o.bind (Mo.numP m)).map Prod.snd) /\ Ch [b] w w' /\ ∀ p, o.bind (Mo.numP m) = some p -> v = p.1 := by
 obtain ⟨s, q, hb, hs, hl⟩ := h
 refine (rnumber_is b s q m hm w hb hs).mono ?_
 rintro e w' ⟨v, t, r, rfl, hv, ht, hb2, hc, hn⟩
 refine ⟨v, rfl, hv, ⟨t, r, hb2, ht, ?_⟩, hc, ?_⟩
 ·cases o with
  | none =>
   have hq : q = true := hl
   show r = true
   cases hp : Mo.numP m (bts s) with
   | none => rw [hp] at hn; exact hn
   | some p => rw [hp] at hn; rw [hn.1, hq]
  | some l =>
   obtain ⟨h1, h2⟩ := hl
   rw [h2] at hn
   show match (Mo.numP m l).map Prod.snd with | some l => r = false /\ bts t = l | none => r = true
   cases hp : Mo.numP m l with
   | none => rw [hp] at hn; exact hn
   | some p => rw [hp] at hn; exact ⟨by rw [hn.1, h1], hn.2.2⟩
 ·intro p hp
  cases o with
  | none => cases hp
  | some l =>
   obtain ⟨h1, h2⟩ := hl
   rw [h2] at hn
   have hp : Mo.numP m l = some p := hp
   rw [hp] at hn
   exact hn.2.1
def twoL : Nat -> Nat -> List Nat
 | 0, _ => []
 | m + 1, n => twoL m (n / 10) ++ [48 + n % 10]
theorem twoL_length : ∀ m n, (twoL m n).length = m
 | 0, _ => rfl
 | m + 1, n => by rw [twoL, List.length_append, twoL_length m]; rfl
theorem twoL_lt (m n : Nat) : ∀ c ∈ twoL m n, c < 256 := by
 induction m generalizing n with
 | zero => intro c hc; cases hc
 | succ m ih =>
  intro c hc
  rw [twoL, List.mem_append] at hc
  rcases hc with hc | hc
  ·exact ih _ c hc
  ·simp at hc; omega
theorem twoL_step (k n : Nat) : twoL (k + 1) n = (48 + n / 10 ^ k % 10) :: twoL k n := by
 induction k generalizing n with
 | zero => simp [twoL]
 | succ k ih =>
  rw [twoL, ih, twoL]
  have e : n / 10 / 10 ^ k = n / 10 ^ (k + 1) := by rw [Nat.div_div_eq_div_mul, Nat.pow_succ, Nat.mul_comm]
  rw [e]; rfl
theorem rtwo_is (n m : Nat) (hm : m <= 4) (hn : n <= 1000000) (w : World) : Calls Tryz.prog 62 #[.int .i64 (n : Int), .int .i64 (m : Int)] w fun e w' => ∃ t : ByteArray, e = .returned (.string t) /\ t = str (twoL m n) /\ Below w.heap.size w w' := by
 go_enter Tryz.func62, Tryz.ntmps62
 go_wp2
 go_loopw [0, 5, 6] (fun u v i wr => ∃ (k x : Nat) (t : ByteArray), k <= m /\ i = .int .i64 (k : Int) /\ u = .int .i64 (x : Int) /\ v = .string t /\ x <= 1000000 /\ t.size <= 4 /\ Hid (x = n / 10 ^ k /\ t = str (twoL k n)) /\ Below w.heap.size w wr) (fun _ _ i _ => m - (intOf i).toNat)
 case atStart => exact ⟨0, n, ⟨#[]⟩, Nat.zero_le _, rfl, rfl, rfl, hn, by decide, Lib.hid ⟨by simp, rfl⟩, Below.refl _ _⟩
 case round =>
  obtain ⟨k, x, t, hk, rfl, rfl, rfl, hx, ht4, hd, hB⟩ := hrel
  by_cases hlt : k < m
  ·obtain ⟨c, hc⟩ : ∃ c : Nat, 48 + x % 10 = c := ⟨_, rfl⟩
   obtain ⟨z, hz⟩ : ∃ z : Nat, x / 10 = z := ⟨_, rfl⟩
   obtain ⟨y, hy⟩ : ∃ y : Nat, x % 10 = y := ⟨_, rfl⟩
   have e1 : (x : Int).tmod 10 = (y : Int) := by rw [Int.tmod_eq_emod_of_nonneg (by omega)]; omega
   have e2 : (x : Int).tdiv 10 = (z : Int) := by rw [Int.tdiv_eq_ediv_of_nonneg (by omega)]; omega
   have ci : (48 : Int) + (y : Int) = (c : Int) := by omega
   have hy9 : y <= 9 := by omega
   have hz2 : z <= 1000000 := by omega
   have w8 : IntKind.u8.wrap (c : Int) = (c : Int) := by rw [IntKind.wrap_u8]; omega
   have es : (convert 79 9 (.slice (some ⟨wr.heap.size, 0, none⟩) 1 1)).run Tryz.prog (wr.alloc (.cells #[.int .u8 (c : Int)] 5)) = .ok (.string (str [c])) (wr.alloc (.cells #[.int .u8 (c : Int)] 5)) := run_str_new wr [(c : Int)] 1
   have hcs : (str [c]).size <= 1 := Nat.le_of_eq (str_size _)
   have hd2 : Hid (z = n / 10 ^ (k + 1) /\ str [c] ++ t = str (twoL (k + 1) n)) := Lib.hid (by
    obtain ⟨q1, q2⟩ := hd.out
    refine ⟨by rw [<- hz, q1, Nat.div_div_eq_div_mul, Nat.pow_succ], ?_⟩
    rw [q2, str_append, twoL_step, <- q1, hc]; rfl)
   have hlen : Hid ((str [c] ++ t).size <= 4) := Lib.hid (by
    rw [hd2.out.2, str_size, twoL_length]; omega)
   clear hd hc hz hy
   go_wp2
   go_roundw
   case rel => exact ⟨k + 1, z, _, by omega, by simp, rfl, rfl, hz2, hlen.out, hd2, hB.alloc hB.size _⟩
   case measure => simp [intOf]; omega
  ·obtain rfl : k = m := by omega
   go_wp2
   go_ret
   exact ⟨t, rfl, hd.out.2, hB⟩
theorem ptrim_is (s : ByteArray) (w : World) : Calls Tryz.prog 191 #[.string s, .string ⟨#[48, 49, 50, 51, 52, 53, 54, 55, 56, 57]⟩] w fun e w' => ∃ t : ByteArray, e = .returned (.string t) /\ bts t = Mo.runR (bts s) /\ Below w.heap.size w w' := by
 refine (Any.strings_TrimLeft_laid Tryz.lays161 (by kernel_rfl) s _ w (by decide) ?_).mono ?_
 ·intro j b hj
  have hm : b ∈ ([48, 49, 50, 51, 52, 53, 54, 55, 56, 57] : List UInt8) := List.mem_of_getElem? hj
  simp only [List.mem_cons, List.not_mem_nil, or_false] at hm
  rcases hm with rfl | rfl | rfl | rfl | rfl | rfl | rfl | rfl | rfl | rfl <;> decide
 ·rintro e w' ⟨rfl, hb⟩
  refine ⟨_, rfl, ?_, hb⟩
  unfold Lib.trimLeftS Mo.runR bts
  show ((s.data.toList.dropWhile _).map UInt8.toNat) = _
  induction s.data.toList with
  | nil => rfl
  | cons a l ih =>
   have e : ([48, 49, 50, 51, 52, 53, 54, 55, 56, 57] : List UInt8).contains a = Dc.dig a.toNat := by
    rw [Bool.eq_iff_iff, List.contains_iff_mem, Dc.dig_iff]
    simp only [List.mem_cons, List.not_mem_nil, or_false]
    constructor
    ·intro h
     rcases h with rfl | rfl | rfl | rfl | rfl | rfl | rfl | rfl | rfl | rfl <;> decide
    ·intro h
     have : a = UInt8.ofNat a.toNat := by simp
     rw [this]
     obtain ⟨h1, h2⟩ := h
     generalize a.toNat = n at *
     have : n = 48 \/ n = 49 \/ n = 50 \/ n = 51 \/ n = 52 \/ n = 53 \/ n = 54 \/ n = 55 \/ n = 56 \/ n = 57 := by omega
     rcases this with rfl | rfl | rfl | rfl | rfl | rfl | rfl | rfl | rfl | rfl <;> decide
   show List.map _ (List.dropWhile (fun x => ([48, 49, 50, 51, 52, 53, 54, 55, 56, 57] : List UInt8).contains x) (a :: l)) = _
   rw [List.dropWhile_cons, List.map_cons, List.dropWhile_cons, e]
   cases Dc.dig a.toNat with
   | true => exact ih
   | false => rfl
def sqUpto (l : List Nat) (k : Nat) : List Nat := (l.take k).map sqB ++ l.drop k
theorem sqUpto_length (l : List Nat) (k : Nat) : (sqUpto l k).length = l.length := by
 simp [sqUpto]; omega
theorem sqUpto_get (l : List Nat) (k : Nat) (h : k < l.length) : (sqUpto l k).getD k 0 = l[k] := by
 have h1 : ((l.take k).map sqB).length = k := by simp; omega
 rw [List.getD_eq_getElem?_getD, sqUpto, List.getElem?_append_right (by omega), h1, Nat.sub_self, List.getElem?_drop]
 simp [h]
theorem sqUpto_set (l : List Nat) (k : Nat) (h : k < l.length) : (sqUpto l k).set k (sqB l[k]) = sqUpto l (k + 1) := by
 have h1 : ((l.take k).map sqB).length = k := by simp; omega
 rw [sqUpto, List.set_append_right _ _ (by omega), h1, Nat.sub_self, List.drop_eq_getElem_cons h, List.set_cons_zero, sqUpto, List.take_succ_eq_append_getElem h, List.map_append, List.append_assoc]
 rfl
theorem sqUpto_same (l : List Nat) (k : Nat) (h : k < l.length) (hs : sqB l[k] = l[k]) : sqUpto l (k + 1) = sqUpto l k := by
 rw [sqUpto, sqUpto, List.take_succ_eq_append_getElem h, List.drop_eq_getElem_cons h, List.map_append, List.append_assoc, List.map_cons, List.map_nil, hs]
 rfl
theorem sqUpto_all (l : List Nat) (k : Nat) (h : l.length <= k) : sqUpto l k = l.map sqB := by
 simp [sqUpto, List.take_of_length_le h, List.drop_eq_nil_of_le h]
end Go.Proofs.YthoojcdjjecogaaGreatDoor
