/-
  What Squeeze of the program returns at mode 2. Conditions: the string's size, the program's table of ranges, a number in the library's variable.
-/
import Derived.Test.YtllnfiidmpopkaaDoorSqueeze
import Derived.Test.YtllnfiidmpopkaaDoorWords
import Derived.Test.YtllnfiidmpopkaaDoorSplit
namespace Go.Proofs.YtllnfiidmpopkaaDoor
open Go Go.RowKit

theorem Tryd.info9 : (Tryd.prog.info? 9).map (fun i => (i.zero, i.size, i.bytes)) = some (some (.string ⟨#[]⟩), 1, 16) := by kernel_rfl

theorem f42_any (t : ByteArray) (ht : t.size ≤ 1000000) (m : Int) (w : World) (hm : w.cell? ⟨2, 0, none⟩ = some (.int .i64 m)) : Calls Tryd.prog 42 #[.string t, .string ⟨#[32]⟩] w fun e w' =>
    ∃ (B : Nat) (xs : List ByteArray), e = .returned (.slice (some ⟨B, 0, none⟩) xs.length xs.length) ∧ B = w.heap.size ∧ w'.heap.size = w.heap.size + 1 ∧ xs.length ≤ t.size + 1 ∧ xs.map (·.data.toList) = Lib.split t.data.toList [32] ∧
      (∀ (j : Nat) x, xs[j]? = some x → w'.cell? ⟨B, j, none⟩ = some (.string x)) ∧ Below w.heap.size w w' := by
  refine (Tryd.strings_Split t ⟨#[32]⟩ m w (by omega) hm (by decide)).mono ?_
  rintro e w' ⟨rfl, rfl⟩
  have h1 := Lib.splitB_all ⟨#[32]⟩ (by decide) 0 (Lib.countB t ⟨#[32]⟩) t rfl
  have h2 := Lib.countB_le ⟨#[32]⟩ (by decide) t.size t (Nat.le_refl _)
  refine ⟨w.heap.size, Lib.splitB ⟨#[32]⟩ 0 (Lib.countB t ⟨#[32]⟩) t, by rw [h1], rfl, by simp, by omega, Lib.splitB_data _ _ _ _, fun j x hx => ?_, (Below.refl _ _).alloc (Nat.le_refl _) _⟩
  have := World.alloc_heap_new w (.cells ((Lib.splitB ⟨#[32]⟩ 0 (Lib.countB t ⟨#[32]⟩) t).map Value.string).toArray 9)
  rw [World.cell?, this]
  simp [hx]

theorem own_strings {W : World} {B n : Nat} {v : Value} {ws : List ByteArray} (h : W.ownsRow B 9 1 v n (ws.map Value.string)) (hne : n ≠ 0) :
    ∃ g cap, v = .slice (some ⟨g, 0, none⟩) n cap ∧ n ≤ cap ∧ g < W.heap.size ∧ ∀ (j : Nat) x, ws[j]? = some x → W.cell? ⟨g, 0 + j, none⟩ = some (.string x) := by
  obtain ⟨hl, ⟨_, h0⟩ | ⟨g, cap, cur, rfl, _, hg, hn, hc, hz, ht⟩⟩ := h
  · exact absurd h0 hne
  · refine ⟨g, cap, rfl, hn, (Array.getElem?_eq_some_iff.1 hg).1, fun j x hx => ?_⟩
    have hj : j < n := by
      have := (List.getElem?_eq_some_iff.1 hx).1
      rw [List.length_map] at hl; omega
    have e : (cur.toList.take (n * 1))[j]? = cur.toList[j]? := List.getElem?_take_of_lt (by omega)
    rw [ht, List.getElem?_map, hx] at e
    have e2 : cur[j]? = some (Value.string x) := by
      rw [← Array.getElem?_toList, ← e]; rfl
    simp [World.cell?, hg, e2]

theorem f43_any (ws : List ByteArray) (v : Value) (B : Nat) (w : World) (hw : ws.length ≤ 1000001) (hlen : (Lib.join (ws.map (·.data.toList)) [32]).length ≤ 140737488355328) (h : w.ownsRow B 9 1 v ws.length (ws.map Value.string)) :
    Calls Tryd.prog 43 #[v, .string ⟨#[32]⟩] w fun e w' => (∃ bs : ByteArray, e = .returned (.string bs) ∧ bs = ⟨(Lib.join (ws.map (·.data.toList)) [32]).toArray⟩) ∧ Below w.heap.size w w' := by
  by_cases hz : ws.length = 0
  · have hn : ws = [] := List.length_eq_zero_iff.1 hz
    subst hn
    obtain ⟨a, cap, rfl⟩ := row_slice h
    refine (Tryd.strings_Join_none a cap ⟨#[32]⟩ w).mono ?_
    rintro e w' ⟨rfl, rfl⟩
    exact ⟨⟨_, rfl, rfl⟩, Below.refl _ _⟩
  · obtain ⟨g, cap, rfl, hcap, hg, hc⟩ := own_strings h hz
    refine (Tryd.strings_Join g 0 cap ws ⟨#[32]⟩ w hc hg (by omega) hcap hlen).mono ?_
    rintro e w' ⟨rfl, hb⟩
    exact ⟨⟨_, rfl, rfl⟩, hb⟩

/-- The words that are not empty. -/
def fullB (xs : List ByteArray) : List ByteArray := xs.filter fun x => !decide (x.size = 0)
theorem fullB_data (xs : List ByteArray) : (fullB xs).map (·.data.toList) = full (xs.map (·.data.toList)) := by
  induction xs with
  | nil => rfl
  | cons x xs ih =>
    have e : (x.data.toList).isEmpty = decide (x.size = 0) := by
      have : x.size = x.data.toList.length := rfl
      rw [this]
      cases x.data.toList <;> simp
    simp only [fullB, full, List.filter_cons, List.map_cons, e] at ih ⊢
    split
    · rw [List.map_cons, ih]
    · exact ih
theorem fullB_succ (xs : List ByteArray) (k : Nat) (h : k < xs.length) : fullB (xs.take (k + 1)) = if xs[k].size = 0 then fullB (xs.take k) else fullB (xs.take k) ++ [xs[k]] := by
  have e : fullB (xs.take (k + 1)) = fullB (xs.take k) ++ fullB [xs[k]] := by rw [List.take_succ_eq_append_getElem h, fullB, List.filter_append]; rfl
  rw [e]
  by_cases h0 : xs[k].size = 0
  · have e2 : fullB [xs[k]] = [] := by rw [fullB, List.filter_cons, decide_eq_true h0]; rfl
    rw [if_pos h0, e2, List.append_nil]
  · have e2 : fullB [xs[k]] = [xs[k]] := by rw [fullB, List.filter_cons, decide_eq_false h0]; rfl
    rw [if_neg h0, e2]
theorem sqTwo_length (s : ByteArray) : (sqTwo (bts s)).length ≤ s.size := by
  have := sqRow_length (bts s)
  rw [bts_length] at this
  unfold sqTwo
  split
  · rw [List.length_dropLast]; omega
  · exact this
theorem bts_lt (s : ByteArray) : ∀ c ∈ bts s, c < 256 := by
  intro c hc
  simp only [bts, List.mem_map] at hc
  obtain ⟨x, _, rfl⟩ := hc
  exact x.toNat_lt

set_option maxRecDepth 100000 in
set_option maxHeartbeats 1000000 in
theorem f22_2 (s : ByteArray) (hs : s.size ≤ 150000) (w : World) (hG : Rng w) (m : Int) (hm : w.cell? ⟨2, 0, none⟩ = some (.int .i64 m)) (hw : wrongI s = -1) : Calls Tryd.prog 22 #[.string s, .int .i64 2] w fun e w' =>
    e = .returned (.tuple #[.string (str (sqTwo (bts s))), .int .i64 0]) ∧ Below w.heap.size w w' := by
  obtain ⟨i9, hi, hz0, hz1, hz2⟩ := info_parts Tryd.info9
  have hd : decide (0 ≤ wrongI s) = false := decide_eq_false (by omega)
  have h2w : 2 < w.heap.size := by
    rcases Nat.lt_or_ge 2 w.heap.size with h | h
    · exact h
    · rw [World.cell?, Array.getElem?_eq_none h] at hm; cases hm
  clear hw
  go_enter Tryd.func22, Tryd.ntmps22
  go_wp2_with (go_at_call 31; refine (f31_any s (by unfold maxLen; omega) _ hG).mono ?_; rintro e w0 ⟨rfl, hb0⟩; obtain ⟨cap, w1, hcv, hrow, hb1⟩ := bytes_row w0 s)
  go_loopw [31] (fun i wr => ∃ k : Nat, k ≤ s.size ∧ i = .int .i64 k ∧ Row8 wr w0.heap.size cap (sqUpto (bts s) k) ∧ Below w.heap.size w wr) (fun i _ => s.size - (intOf i).toNat)
  case atStart => exact ⟨0, Nat.zero_le _, rfl, hrow, hb0.trans (hb1.mono hb0.size)⟩
  case round =>
    obtain ⟨k, hk, rfl, hr, hB⟩ := hrel
    by_cases hlt : k < s.size
    · have hlb : k < (bts s).length := by rw [bts_length]; exact hlt
      obtain ⟨c, hc⟩ : ∃ c, (bts s)[k]'hlb = c := ⟨_, rfl⟩
      have hwr : wrap32 (c : Int) = (c : Int) := by have := (s[k]'hlt).toNat_lt; rw [← bts_get s k hlt, hc] at this; unfold wrap32; omega
      have hcell := hr.at (j := k) (by rw [sqUpto_length]; exact hlb)
      rw [sqUpto_get _ _ hlb, hc] at hcell
      have hfz := hr.open (j := k) (by rw [sqUpto_length]; exact hlb)
      cases hbl : Ch.blank (c : Int) with
      | true =>
        have e1 : Hid (Row8 (wr.setCell ⟨w0.heap.size, k, none⟩ (.int .u8 32)) w0.heap.size cap (sqUpto (bts s) (k + 1))) := Lib.hid (by
          have := hr.put k 32
          have e : sqB ((bts s)[k]'hlb) = 32 := by rw [hc]; simp [sqB, hbl]
          rw [← e, sqUpto_set _ _ hlb] at this
          rw [e] at this
          exact this)
        have HBL : Hid _ := Lib.hid hbl
        clear hbl hc
        go_wp2_with (go_at_call 10; refine (f10_any _ _).mono ?_; rintro e w3 ⟨rfl, rfl⟩; rw [HBL.out])
        go_roundw
        case rel => exact ⟨k + 1, by omega, by simp, e1.out, hB.setCell (p := ⟨w0.heap.size, k, none⟩) hb0.size _⟩
        case measure => simp [intOf]; omega
      | false =>
        have e1 : Hid (Row8 wr w0.heap.size cap (sqUpto (bts s) (k + 1))) := Lib.hid (by
          have e : sqB ((bts s)[k]'hlb) = (bts s)[k]'hlb := by rw [hc]; simp [sqB, hbl]
          rw [sqUpto_same _ _ hlb e]; exact hr)
        have HBL : Hid _ := Lib.hid hbl
        clear hbl hc
        go_wp2_with (go_at_call 10; refine (f10_any _ _).mono ?_; rintro e w3 ⟨rfl, rfl⟩; rw [HBL.out])
        go_roundw
        case rel => exact ⟨k + 1, by omega, by simp, e1.out, hB⟩
        case measure => simp [intOf]; omega
    · have hcv2 := hr.str
      rw [sqUpto_length, bts_length, sqUpto_all _ _ (by rw [bts_length]; omega)] at hcv2
      obtain ⟨t, ht⟩ : ∃ t, str ((bts s).map sqB) = t := ⟨_, rfl⟩
      have hts : t.size ≤ 150000 := by rw [← ht, str_size, List.length_map, bts_length]; exact hs
      have htd : Hid (t.data.toList = ((bts s).map sqB).map UInt8.ofNat) := Lib.hid (by rw [← ht]; simp [str])
      rw [ht] at hcv2
      have hm1 : wr.cell? ⟨2, 0, none⟩ = some (.int .i64 m) := by
        rw [World.cell?, hB.block 2 h2w]; exact hm
      clear hcv ht
      go_wp2_with (go_at_call 42; refine (f42_any t (by omega) m _ hm1).mono ?_; rintro e w4 ⟨B2, xs, rfl, hB2, hs4, hxl, hxs, hcs, hb4⟩; have HXS : Hid _ := Lib.hid hxs; clear hxs; have HCS : Hid _ := Lib.hid hcs; clear hcs; have hb2 : B2 < w4.heap.size ∧ w.heap.size ≤ B2 := ⟨by omega, by rw [hB2]; exact hB.size⟩; obtain ⟨hb2a, hb2b⟩ := hb2; clear hB2 hs4)
      go_loopw [9, 51] (fun v i wr => ∃ (k : Nat) (ws : List ByteArray), k ≤ xs.length ∧ i = .int .i64 k ∧ ws.length ≤ k ∧ Hid (ws = fullB (xs.take k)) ∧ wr.ownsRow (B2 + 1) 9 1 v ws.length (ws.map Value.string) ∧ Hid (∀ (j : Nat) x, xs[j]? = some x → wr.cell? ⟨B2, j, none⟩ = some (.string x)) ∧ B2 < wr.heap.size ∧ Below w.heap.size w wr) (fun _ i _ => xs.length - (intOf i).toNat)
      case atStart => exact ⟨0, [], Nat.zero_le _, rfl, by simp, Lib.hid rfl, ⟨rfl, .inl ⟨rfl, rfl⟩⟩, HCS, hb2a, hB.trans (hb4.mono hB.size)⟩
      case round =>
        obtain ⟨j, ws, hj, rfl, hwj, hws, hown, hcells, hlt2, hB5⟩ := hrel
        by_cases hjl : j < xs.length
        · obtain ⟨x, hx⟩ : ∃ x, xs[j]'hjl = x := ⟨_, rfl⟩
          have hsucc := fullB_succ xs j hjl
          rw [hx, ← hws.out] at hsucc
          have hcell := hcells.out j x (by rw [List.getElem?_eq_getElem hjl, hx])
          by_cases h0 : x.size = 0
          · rw [if_pos h0] at hsucc
            have he := isEmpty_yes h0
            have HS : Hid _ := Lib.hid hsucc
            clear hsucc h0 hx hws
            go_wp2
            go_roundw
            case rel => exact ⟨j + 1, ws, by omega, by simp, by omega, Lib.hid HS.out.symm, hown, hcells, hlt2, hB5⟩
            case measure => simp [intOf]; omega
          · rw [if_neg h0] at hsucc
            have he := isEmpty_no (Nat.pos_of_ne_zero h0)
            have HS : Hid _ := Lib.hid hsucc
            clear hsucc h0 hx hws
            go_wp2_with (at_builtin; go_must (refine wpList_append_own _ rfl _ _ 63 rfl (B2 + 1) 9 i9 (.string ⟨#[]⟩) 1 16 Tryd.underlying63 hi hz0 hz1 hz2 rfl (by decide) _ ws.length (ws.map Value.string) rfl (hown.alloc _) ⟨wr.heap.size, 0, none⟩ 1 1 [.string x] rfl rfl (cell_one_new _ _ _) (by simp [Value.oneCell']) (by unfold maxLen; omega) (by omega) (by simp; omega) ?_); intro v' w2 hown2 hgrow _)
            go_roundw
            case rel =>
              have hgr := grownBy_alloc hgrow
              have hne : some B2 ≠ u9.ownBlock := row_ge hown B2 (by omega)
              refine ⟨j + 1, ws ++ [x], by omega, by simp, by simp; omega, Lib.hid HS.out.symm, by rw [List.length_append, List.map_append]; exact hown2, Lib.hid (fun i y hy => ?_), ?_, ?_⟩
              · rw [World.cell?, hgr.block B2 hlt2 hne]; exact hcells.out i y hy
              · exact Nat.lt_of_lt_of_le hlt2 hgr.size
              · exact hB5.grown hgr hB5.size (fun i e => (Nat.lt_or_ge i (B2 + 1)).elim (fun hi => absurd e.symm (row_ge hown i hi)) (fun h => by omega))
            case measure => simp [intOf]; omega
        · have hall : fullB (xs.take j) = fullB xs := by rw [List.take_of_length_le (by omega)]
          have hfin : Lib.join (ws.map (·.data.toList)) [32] = (sqTwo (bts s)).map UInt8.ofNat := by
            rw [sqTwo_eq _ (bts_lt s), ← htd.out, ← HXS.out, ← fullB_data, ← hall, ← hws.out]
          have hlen : (Lib.join (ws.map (·.data.toList)) [32]).length ≤ 140737488355328 := by
            rw [hfin, List.length_map]; have := sqTwo_length s; omega
          have HF : Hid (∀ bs : ByteArray, bs = ⟨(Lib.join (ws.map (·.data.toList)) [32]).toArray⟩ → bs = str (sqTwo (bts s))) := Lib.hid (fun bs h => by rw [h, hfin]; rfl)
          clear hall hfin
          go_wp2_with (go_at_call 43; refine (f43_any ws _ (B2 + 1) _ (by omega) hlen hown).mono ?_; rintro e w6 ⟨⟨bs, rfl, hbs⟩, hb6⟩; have HB : Hid _ := Lib.hid hbs; clear hbs)
          go_ret2
          go_light
          exact ⟨by rw [HF.out bs HB.out]; rfl, hB5.trans (hb6.mono hB5.size)⟩
end Go.Proofs.YtllnfiidmpopkaaDoor
