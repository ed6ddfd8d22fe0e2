/-
  What Squeeze of the program returns at modes 0 and 1, and where it fails. Conditions: the string's size, the program's table of ranges.
-/
import Derived.Test.YtllnfiidmpopkaaDoorSqueezeRef2
import Derived.Lib.ConvBytes
namespace Go.Proofs.YtllnfiidmpopkaaDoor
open Go Go.RowKit

/-- A row of bytes that a conversion has made. -/
def Row8 (W : World) (B cap : Nat) (l : List Nat) : Prop := ∃ cur, W.heap[B]? = some (.cells cur 5 (cap, cap + 1)) ∧ cur.size = cap ∧ l.length ≤ cap ∧ cur.toList.take l.length = u8s l
theorem Row8.lt {W : World} {B cap : Nat} {l : List Nat} (h : Row8 W B cap l) : B < W.heap.size := by
  obtain ⟨cur, h1, _⟩ := h
  exact (Array.getElem?_eq_some_iff.1 h1).1
theorem Row8.at {W : World} {B cap : Nat} {l : List Nat} (h : Row8 W B cap l) {j : Nat} (hj : j < l.length) : W.cell? ⟨B, j, none⟩ = some (.int .u8 (l.getD j 0 : Nat)) := by
  obtain ⟨cur, h1, h2, h3, h4⟩ := h
  have e : (cur.toList.take l.length)[j]? = cur.toList[j]? := List.getElem?_take_of_lt hj
  rw [h4] at e
  have e2 : cur[j]? = some (Value.int .u8 (l.getD j 0 : Nat)) := by
    rw [← Array.getElem?_toList, ← e]
    simp [u8s, hj, List.getD_eq_getElem?_getD]
  simp [World.cell?, h1, e2]
theorem Row8.open {W : World} {B cap : Nat} {l : List Nat} (h : Row8 W B cap l) {j : Nat} (hj : j < l.length) : W.frozen? ⟨B, j, none⟩ = false := by
  obtain ⟨cur, h1, h2, h3, h4⟩ := h
  simp [World.frozen?, h1]; omega
theorem Row8.keep {W W' : World} {B cap : Nat} {l : List Nat} (h : Row8 W B cap l) (hb : Below W.heap.size W W') : Row8 W' B cap l := by
  have := h.lt
  obtain ⟨cur, h1, h2⟩ := h
  exact ⟨cur, (hb.block B this).trans h1, h2⟩
theorem Row8.put {W : World} {B cap : Nat} {l : List Nat} (h : Row8 W B cap l) (j x : Nat) : Row8 (W.setCell ⟨B, j, none⟩ (.int .u8 (x : Int))) B cap (l.set j x) := by
  obtain ⟨cur, h1, h2, h3, h4⟩ := h
  obtain ⟨hlt, hk⟩ := Array.getElem?_eq_some_iff.1 h1
  refine ⟨cur.setIfInBounds j (.int .u8 (x : Int)), ?_, by simp [h2], by simpa using h3, ?_⟩
  · show (W.heap.modify B _)[B]? = _
    rw [Array.getElem?_eq_getElem (by rw [Array.size_modify]; exact hlt), Array.getElem_modify_self, hk]
    rfl
  · rw [Array.toList_setIfInBounds, List.length_set, List.take_set, h4]
    simp [u8s, List.map_set]
theorem Row8.str {W : World} {B cap : Nat} {l : List Nat} (h : Row8 W B cap l) : (convert 46 9 (.slice (some ⟨B, 0, none⟩) l.length cap)).run Tryd.prog W = .ok (.string (str l)) W := by
  have e := run_str W ⟨B, 0, none⟩ cap (l.map fun n : Nat => (n : Int)) (fun j u hj => by
    have hb : ((⟨B, 0, none⟩ : Addr).add j) = ⟨B, j, none⟩ := by
      unfold Addr.add; split
      · rename_i h0; rw [h0]
      · simp
    rw [hb]
    have hj' : j < l.length := by
      have := (List.getElem?_eq_some_iff.1 hj).1
      simpa [u8i] using this
    rw [h.at hj']
    rw [← hj, u8i_nat]; simp [u8s, hj', List.getD_eq_getElem?_getD])
  rw [List.length_map, strI_nat] at e
  exact e
/-- What '[]byte(s)' makes. -/
theorem bytes_row (w : World) (s : ByteArray) : ∃ cap w', (convert 9 46 (.string s)).run Tryd.prog w = .ok (.slice (some ⟨w.heap.size, 0, none⟩) s.size cap) w' ∧ Row8 w' w.heap.size cap (bts s) ∧ Below w.heap.size w w' := by
  refine ⟨_, _, Lib.run_convert_string_bytes w 9 46 5 s Tryd.underlying9 Tryd.underlying46 Tryd.underlying5, ?_, ?_⟩
  · have hle : s.size ≤ grownCap w s.size 0 5 := grownCap_ge _ _ _ _
    have hcs : (Lib.bytesCells w 5 s).size = grownCap w s.size 0 5 := by
      have : s.data.size = s.size := rfl
      simp [Lib.bytesCells, this]; omega
    refine ⟨Lib.bytesCells w 5 s, ?_, hcs, by rw [bts_length]; exact hle, ?_⟩
    · have := Lib.bytesWorld_at_new w 5 s
      rw [hcs] at this
      exact this
    · rw [bts_length]
      have : s.data.toList.length = s.size := rfl
      simp [Lib.bytesCells, bts, u8s, this]
  · exact ⟨rfl, rfl, rfl, by rw [Lib.bytesWorld_size]; omega, fun k hk => Lib.bytesWorld_at_old w 5 s k hk⟩

/-- The text, its first k bytes treated. -/
def sqUpto (l : List Nat) (k : Nat) : List Nat := (l.take k).map sqB ++ l.drop k
theorem sqUpto_length (l : List Nat) (k : Nat) : (sqUpto l k).length = l.length := by
  simp [sqUpto]; omega
theorem sqUpto_get (l : List Nat) (k : Nat) (h : k < l.length) : (sqUpto l k).getD k 0 = l[k] := by
  have h1 : ((l.take k).map sqB).length = k := by simp; omega
  rw [List.getD_eq_getElem?_getD, sqUpto, List.getElem?_append_right (by omega), h1, Nat.sub_self, List.getElem?_drop]
  simp [h]
theorem sqUpto_set (l : List Nat) (k : Nat) (h : k < l.length) : (sqUpto l k).set k (sqB l[k]) = sqUpto l (k + 1) := by
  have h1 : ((l.take k).map sqB).length = k := by simp; omega
  rw [sqUpto, List.set_append_right _ _ (by omega), h1, Nat.sub_self, List.drop_eq_getElem_cons h, List.set_cons_zero, sqUpto, List.take_succ_eq_append_getElem h, List.map_append, List.append_assoc]
  rfl
theorem sqUpto_same (l : List Nat) (k : Nat) (h : k < l.length) (hs : sqB l[k] = l[k]) : sqUpto l (k + 1) = sqUpto l k := by
  rw [sqUpto, sqUpto, List.take_succ_eq_append_getElem h, List.drop_eq_getElem_cons h, List.map_append, List.append_assoc, List.map_cons, List.map_nil, hs]
  rfl
theorem sqUpto_all (l : List Nat) (k : Nat) (h : l.length ≤ k) : sqUpto l k = l.map sqB := by
  simp [sqUpto, List.take_of_length_le h, List.drop_eq_nil_of_le h]
theorem bts_get (s : ByteArray) (k : Nat) (h : k < s.size) : (bts s)[k]'(by rw [bts_length]; exact h) = (s[k]'h).toNat := by
  simp [bts]; rfl

set_option maxRecDepth 100000 in
set_option maxHeartbeats 1000000 in
theorem f22_low (s : ByteArray) (m : Int) (w : World) (h1 : decide (m < 0) = true) : Calls Tryd.prog 22 #[.string s, .int .i64 m] w fun e w' =>
    e = .returned (.tuple #[.string ⟨#[]⟩, .int .i64 2]) ∧ Below w.heap.size w w' := by
  go_enter Tryd.func22, Tryd.ntmps22
  go_wp2
  go_ret2
  go_light
  exact ⟨rfl, Below.refl _ _⟩
set_option maxRecDepth 100000 in
set_option maxHeartbeats 1000000 in
theorem f22_high (s : ByteArray) (m : Int) (w : World) (h1 : decide (m < 0) = false) (h2 : decide (2 < m) = true) : Calls Tryd.prog 22 #[.string s, .int .i64 m] w fun e w' =>
    e = .returned (.tuple #[.string ⟨#[]⟩, .int .i64 2]) ∧ Below w.heap.size w w' := by
  go_enter Tryd.func22, Tryd.ntmps22
  go_wp2
  go_ret2
  go_light
  exact ⟨rfl, Below.refl _ _⟩
set_option maxRecDepth 100000 in
set_option maxHeartbeats 1000000 in
theorem f22_wrong (s : ByteArray) (m : Int) (hs : s.size ≤ 150000) (w : World) (hG : Rng w) (hw : 0 ≤ wrongI s) (h1 : decide (m < 0) = false) (h2 : decide (2 < m) = false) : Calls Tryd.prog 22 #[.string s, .int .i64 m] w fun e w' =>
    e = .returned (.tuple #[.string ⟨#[]⟩, .int .i64 6]) ∧ Below w.heap.size w w' := by
  have hd : decide (0 ≤ wrongI s) = true := decide_eq_true hw
  clear hw
  go_enter Tryd.func22, Tryd.ntmps22
  go_wp2_with (go_at_call 31; refine (f31_any s (by unfold maxLen; omega) _ hG).mono ?_; rintro e w0 ⟨rfl, hb0⟩)
  go_ret2
  go_light
  exact ⟨rfl, hb0⟩
set_option maxRecDepth 100000 in
set_option maxHeartbeats 1000000 in
theorem f22_0 (s : ByteArray) (hs : s.size ≤ 150000) (w : World) (hG : Rng w) (hw : wrongI s = -1) : Calls Tryd.prog 22 #[.string s, .int .i64 0] w fun e w' =>
    e = .returned (.tuple #[.string s, .int .i64 0]) ∧ Below w.heap.size w w' := by
  have hd : decide (0 ≤ wrongI s) = false := decide_eq_false (by omega)
  clear hw
  go_enter Tryd.func22, Tryd.ntmps22
  go_wp2_with (go_at_call 31; refine (f31_any s (by unfold maxLen; omega) _ hG).mono ?_; rintro e w0 ⟨rfl, hb0⟩)
  go_ret2
  go_light
  exact ⟨rfl, hb0⟩
set_option maxRecDepth 100000 in
set_option maxHeartbeats 1000000 in
theorem f22_1 (s : ByteArray) (hs : s.size ≤ 150000) (w : World) (hG : Rng w) (hw : wrongI s = -1) : Calls Tryd.prog 22 #[.string s, .int .i64 1] w fun e w' =>
    e = .returned (.tuple #[.string (str ((bts s).map sqB)), .int .i64 0]) ∧ Below w.heap.size w w' := by
  have hd : decide (0 ≤ wrongI s) = false := decide_eq_false (by omega)
  clear hw
  go_enter Tryd.func22, Tryd.ntmps22
  go_wp2_with (go_at_call 31; refine (f31_any s (by unfold maxLen; omega) _ hG).mono ?_; rintro e w0 ⟨rfl, hb0⟩; obtain ⟨cap, w1, hcv, hrow, hb1⟩ := bytes_row w0 s)
  go_loopw [31] (fun i wr => ∃ k : Nat, k ≤ s.size ∧ i = .int .i64 k ∧ Row8 wr w0.heap.size cap (sqUpto (bts s) k) ∧ Below w.heap.size w wr) (fun i _ => s.size - (intOf i).toNat)
  case atStart => exact ⟨0, Nat.zero_le _, rfl, hrow, hb0.trans (hb1.mono hb0.size)⟩
  case round =>
    obtain ⟨k, hk, rfl, hr, hB⟩ := hrel
    by_cases hlt : k < s.size
    · have hlb : k < (bts s).length := by rw [bts_length]; exact hlt
      obtain ⟨c, hc⟩ : ∃ c, (bts s)[k]'hlb = c := ⟨_, rfl⟩
      have hwr : wrap32 (c : Int) = (c : Int) := by have := (s[k]'hlt).toNat_lt; rw [← bts_get s k hlt, hc] at this; unfold wrap32; omega
      have hcell := hr.at (j := k) (by rw [sqUpto_length]; exact hlb)
      rw [sqUpto_get _ _ hlb, hc] at hcell
      have hfz := hr.open (j := k) (by rw [sqUpto_length]; exact hlb)
      cases hbl : Ch.blank (c : Int) with
      | true =>
        have e1 : Hid (Row8 (wr.setCell ⟨w0.heap.size, k, none⟩ (.int .u8 32)) w0.heap.size cap (sqUpto (bts s) (k + 1))) := Lib.hid (by
          have := hr.put k 32
          have e : sqB ((bts s)[k]'hlb) = 32 := by rw [hc]; simp [sqB, hbl]
          rw [← e, sqUpto_set _ _ hlb] at this
          rw [e] at this
          exact this)
        have HBL : Hid _ := Lib.hid hbl
        clear hbl hc
        go_wp2_with (go_at_call 10; refine (f10_any _ _).mono ?_; rintro e w3 ⟨rfl, rfl⟩; rw [HBL.out])
        go_roundw
        case rel => exact ⟨k + 1, by omega, by simp, e1.out, hB.setCell (p := ⟨w0.heap.size, k, none⟩) hb0.size _⟩
        case measure => simp [intOf]; omega
      | false =>
        have e1 : Hid (Row8 wr w0.heap.size cap (sqUpto (bts s) (k + 1))) := Lib.hid (by
          have e : sqB ((bts s)[k]'hlb) = (bts s)[k]'hlb := by rw [hc]; simp [sqB, hbl]
          rw [sqUpto_same _ _ hlb e]; exact hr)
        have HBL : Hid _ := Lib.hid hbl
        clear hbl hc
        go_wp2_with (go_at_call 10; refine (f10_any _ _).mono ?_; rintro e w3 ⟨rfl, rfl⟩; rw [HBL.out])
        go_roundw
        case rel => exact ⟨k + 1, by omega, by simp, e1.out, hB⟩
        case measure => simp [intOf]; omega
    · have hcv2 := hr.str
      rw [sqUpto_length, bts_length, sqUpto_all _ _ (by rw [bts_length]; omega)] at hcv2
      clear hcv
      go_wp2
      go_ret2
      go_light
      exact ⟨rfl, hB⟩
end Go.Proofs.YtllnfiidmpopkaaDoor
