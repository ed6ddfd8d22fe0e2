/-
  What Unescape of the reference returns. Condition: the string's size.
-/
import Derived.Test.YtllnfiidmpopkaaDoorEscaped
namespace Go.Proofs.YtllnfiidmpopkaaDoor
open Go Go.RowKit

theorem f40_yes (k : ByteArray) (hk : k.size ≤ 1000000) (w : World) {n : Nat} (hn : charM (bts k) = some n) :
    Calls Tryd.prog 40 #[.string k] w fun e w' => e = .returned (.tuple #[.int .i32 (n : Int), .bool true]) ∧ Below w.heap.size w w' := by
  refine (f40_any k hk w).mono ?_
  rintro e w' ⟨⟨c, hc, rfl⟩ | ⟨hc, _⟩, hb⟩
  · rw [hn] at hc; cases hc; exact ⟨rfl, hb⟩
  · rw [hn] at hc; cases hc
theorem f40_no (k : ByteArray) (hk : k.size ≤ 1000000) (w : World) (hn : charM (bts k) = none) :
    Calls Tryd.prog 40 #[.string k] w fun e w' => e = .returned (.tuple #[.int .i32 0, .bool false]) ∧ Below w.heap.size w w' := by
  refine (f40_any k hk w).mono ?_
  rintro e w' ⟨⟨c, hc, _⟩ | ⟨_, rfl⟩, hb⟩
  · rw [hn] at hc; cases hc
  · exact ⟨rfl, hb⟩
theorem f25_text (s : ByteArray) (hs : s.size ≤ 1000000) (w : World) (hw : wrongI s = -1) : Calls Tryd.prog 25 #[.string s] w fun e w' => (∃ v, e = .returned (.tuple #[v, .int .i64 0, .int .i64 0])) ∧ Below w.heap.size w w' := by
  refine (f25_any s hs w).mono ?_
  rintro e w' ⟨⟨v, _, rfl, _⟩ | ⟨h, _⟩, hb⟩
  · exact ⟨⟨v, rfl⟩, hb⟩
  · omega
theorem f25_wrong (s : ByteArray) (hs : s.size ≤ 1000000) (w : World) (hw : 0 ≤ wrongI s) : Calls Tryd.prog 25 #[.string s] w fun e w' => e = .returned (.tuple #[.slice none 0 0, .int .i64 (wrongI s), .int .i64 6]) ∧ Below w.heap.size w w' := by
  refine (f25_any s hs w).mono ?_
  rintro e w' ⟨⟨v, h, _, _⟩ | ⟨_, rfl⟩, hb⟩
  · omega
  · exact ⟨rfl, hb⟩

set_option maxRecDepth 100000 in
set_option maxHeartbeats 4000000 in
theorem f21_any (s : ByteArray) (hs : s.size ≤ 150000) (w : World) : Calls Tryd.prog 21 #[.string s] w fun e w' => e = unEnd s ∧ Below w.heap.size w w' := by
  obtain ⟨i0, hi, hz0, hz1, hz2⟩ := info_parts Tryd.info5
  rcases wrongI_cases s with hw | hw
  · have HW : Hid _ := Lib.hid hw
    have HC : Hid _ := Lib.hid (f25_text s (by omega) w hw)
    clear hw
    go_enter Tryd.func21, Tryd.ntmps21
    go_wp2_with (go_at_call 25; refine HC.out.mono ?_; rintro e w0 ⟨⟨v0, rfl⟩, hb0⟩)
    clear HC
    go_loopw [8, 9] (fun v i wr => ∃ (p f : Nat) (out : List Nat), p ≤ s.size ∧ s.size < p + f ∧ out.length ≤ 4 * p ∧ i = .int .i64 p ∧ Hid (unT s = unF f ((bts s).drop p) p out) ∧
      wr.ownsRow w.heap.size 5 1 v out.length (u8s out) ∧ Below w.heap.size w wr) (fun _ i _ => s.size - (intOf i).toNat)
    case atStart => exact ⟨0, s.size + 1, [], Nat.zero_le _, by omega, by simp, rfl, Lib.hid rfl, ⟨rfl, .inl ⟨rfl, rfl⟩⟩, hb0⟩
    case round =>
      obtain ⟨p, f, out, hp, hf, hol, rfl, hun, hown, hB⟩ := hrel
      by_cases hlt : p < s.size
      · obtain ⟨f, rfl⟩ : ∃ f', f = f' + 1 := ⟨f - 1, by omega⟩
        have hpl : p < (bts s).length := by rw [bts_length]; exact hlt
        obtain ⟨c, hc⟩ : ∃ c, (s[p]'hlt).toNat = c := ⟨_, rfl⟩
        have hcg : (bts s).getD p 0 = c := by rw [← hc, byte_eq hlt]; rfl
        have hc256 : c < 256 := by rw [← hc]; exact (s[p]'hlt).toNat_lt
        by_cases h38 : c = 38
        · subst h38
          obtain ⟨q, hq⟩ : ∃ q, find59 ((bts s).drop (p + 1)) = q := ⟨_, rfl⟩
          have hlr : ((bts s).drop (p + 1)).length = s.size - (p + 1) := by rw [List.length_drop, bts_length]
          have HQ : Hid _ := Lib.hid hq
          have HCG : Hid _ := Lib.hid hcg
          have HLR : Hid _ := Lib.hid hlr
          clear hq hcg hlr
          go_wp2_with (fail)
          go_loop [10] (fun e => ∃ m : Nat, p + 1 ≤ m ∧ m ≤ s.size ∧ e = .int .i64 m ∧ Hid (∀ i, p + 1 + i < m → ((bts s).drop (p + 1)).getD i 0 ≠ 59)) (fun e => s.size - (intOf e).toNat)
          case atStart => exact ⟨p + 1, by omega, by omega, by go_num, Lib.hid (fun i h => by omega)⟩
          case round =>
            obtain ⟨m, hm1, hm2, rfl, hno⟩ := hrel
            by_cases hml : m < s.size
            · obtain ⟨b, hb⟩ : ∃ b, (s[m]'hml).toNat = b := ⟨_, rfl⟩
              have hbg : ((bts s).drop (p + 1)).getD (m - (p + 1)) 0 = b := by
                rw [List.getD_eq_getElem?_getD, List.getElem?_drop, show p + 1 + (m - (p + 1)) = m by omega, ← List.getD_eq_getElem?_getD, ← hb, byte_eq hml]; rfl
              by_cases h59 : b = 59
              · subst h59
                obtain ⟨k, hk⟩ : ∃ k, s.extract (p + 1) m = k := ⟨_, rfl⟩
                have hqm : find59 ((bts s).drop (p + 1)) = m - (p + 1) := find59_eq (by rw [HLR.out]; omega) (fun i hi => hno.out i (by omega)) hbg
                have hbk : bts k = ((bts s).drop (p + 1)).take (find59 ((bts s).drop (p + 1))) := by
                  rw [← hk, bts_extract, List.drop_take, hqm]
                have hks : k.size ≤ 1000000 := by rw [← bts_length, hbk, List.length_take]; have := HLR.out; omega
                cases hch : charM (bts k) with
                | none =>
                  have hfin : Hid (unT s = .inl p) := Lib.hid (by rw [hun.out, unF_bad f p _ _ hpl HCG.out (by rw [← hbk]; exact hch)])
                  have HCH : Hid _ := Lib.hid hch
                  clear hun hqm hbk hch hbg hno
                  go_wp2_with (go_at_call 40; refine (f40_no k hks _ HCH.out).mono ?_; rintro e w1 ⟨rfl, hb1⟩)
                  go_ret3
                  go_light
                  exact ⟨unEnd_bad HW.out hfin.out, hB.trans (hb1.mono hB.size)⟩
                | some n =>
                  have hun' : Hid (unT s = unF f ((bts s).drop (m + 1)) (m + 1) (out ++ Ch.encN n)) := Lib.hid (by
                    have := unF_ref f p n (bts s) out hpl HCG.out (by rw [hqm, HLR.out]; omega) (by rw [← hbk]; exact hch)
                    rw [hun.out, this, hqm, show p + (m - (p + 1)) + 2 = m + 1 by omega])
                  have hn := charM_le hch
                  have hl4 : (Ch.encN n).length ≤ 4 := by rw [Ch.encN_length]; exact (Ch.lenN_pos n).2
                  have HCH : Hid _ := Lib.hid hch
                  clear hun hqm hbk hch hbg hno
                  go_wp2_with (first
                    | (go_at_call 40; refine (f40_yes k hks _ HCH.out).mono ?_; rintro e w1 ⟨rfl, hb1⟩; have hown1 := own_below hown hb1)
                    | (go_at_call 41; refine (f41_nat n hn _).mono ?_; rintro e w3 ⟨⟨bs, rfl, hbs⟩, hb3⟩; have hown3 := own_below hown1 hb3; have hbl : bs.size ≤ 4 := (by rw [hbs, str_size]; exact hl4); have HBS : Hid _ := Lib.hid hbs; clear hbs; have hB3 := (hB.trans (hb1.mono hB.size)).trans (hb3.mono (Nat.le_trans hB.size hb1.size)))
                    | (at_builtin; go_must (refine Lib.wpList_append_own_string _ rfl _ _ 46 9 rfl w.heap.size 5 i0 Tryd.underlying46 Tryd.underlying9 hi hz0 hz1 hz2 _ out.length (u8s out) rfl hown3 _ rfl (by unfold maxLen; omega) (by omega) hB3.size ?_); intro v' w2 hown2 hg2 _))
                  go_roundw
                  case rel =>
                    refine ⟨m + 1, f, out ++ Ch.encN n, by omega, by omega, by simp only [List.length_append]; omega, by go_num, hun', ?_, hB3.grown hg2 hB3.size (fun j e => (Nat.lt_or_ge j w.heap.size).elim (fun hj => absurd e.symm (row_ge hown3 j hj)) id)⟩
                    have e1 : Lib.strCells bs = u8s (Ch.encN n) := by rw [HBS.out]; exact strCells_str _ (Ch.encN_lt hn)
                    have e2 : bs.size = (Ch.encN n).length := by rw [HBS.out, str_size]
                    rw [u8s_append, List.length_append, ← e1, ← e2]
                    exact hown2
                  case measure => simp [intOf]; omega
              · have n59 : ((b : Int) == 59) = false := beq_no h59
                have n59' : ((b : Int) != 59) = true := by simp [bne, n59]
                have hno' : Hid (∀ i, p + 1 + i < m + 1 → ((bts s).drop (p + 1)).getD i 0 ≠ 59) := Lib.hid (fun i h => by
                  by_cases hi : p + 1 + i < m
                  · exact hno.out i hi
                  · rw [show i = m - (p + 1) by omega, hbg]; exact h59)
                clear hbg hno h59
                go_wp2
                go_round
                case rel => exact ⟨m + 1, by omega, by omega, by go_num, hno'⟩
                case measure => simp [intOf]; omega
            · have hme : m = s.size := by omega
              subst hme
              have hfin : Hid (unT s = .inl p) := Lib.hid (by
                rw [hun.out, unF_open f p _ _ hpl HCG.out (find59_len (fun i hi => hno.out i (by rw [HLR.out] at hi; omega)))])
              clear hun hno
              go_wp2
              go_ret3
              go_light
              exact ⟨unEnd_bad HW.out hfin.out, hB⟩
        · have n38 : ((c : Int) == 38) = false := beq_no h38
          have hun' : Hid (unT s = unF f ((bts s).drop (p + 1)) (p + 1) (out ++ [c])) := Lib.hid (by rw [hun.out, unF_char f p _ _ hpl (by rw [hcg]; exact h38), hcg])
          clear hun hcg h38
          go_wp2_with (at_builtin; go_must (refine wpList_append_own _ rfl _ _ 46 rfl w.heap.size 5 i0 (.int .u8 0) 1 1 Tryd.underlying46 hi hz0 hz1 hz2 rfl (by decide) _ out.length (u8s out) rfl (hown.alloc _) ⟨wr.heap.size, 0, none⟩ 1 1 [.int .u8 (c : Int)] rfl rfl (cell_one_new _ _ _) (by simp [Value.oneCell']) (by unfold maxLen; omega) (by omega) (by have := hB.size; simp; omega) ?_); intro v' w2 hown2 hgrow _)
          go_roundw
          case rel => exact ⟨p + 1, f, out ++ [c], by omega, by omega, by simp; omega, by simp, hun', by rw [u8s_append, List.length_append]; exact hown2, hB.grown (grownBy_alloc hgrow) hB.size (fun j e => (Nat.lt_or_ge j w.heap.size).elim (fun hj => absurd e.symm (row_ge hown j hj)) id)⟩
          case measure => simp [intOf]; omega
      · have hfin : Hid (unT s = .inr out) := Lib.hid (by rw [hun.out, unF_end f p _ _ (by rw [bts_length]; omega)])
        have hown' := hown
        rw [u8s_i] at hown'
        have hcv := run_str_own hown'
        rw [strI_nat] at hcv
        clear hun hown'
        go_wp2
        go_ret3
        go_light
        exact ⟨unEnd_good HW.out hfin.out rfl, hB⟩
  · have HW : Hid _ := Lib.hid hw
    have HC : Hid _ := Lib.hid (f25_wrong s (by omega) w hw)
    clear hw
    go_enter Tryd.func21, Tryd.ntmps21
    go_wp2_with (go_at_call 25; refine HC.out.mono ?_; rintro e w0 ⟨rfl, hb0⟩)
    go_ret3
    go_light
    exact ⟨unEnd_wrong HW.out, hb0⟩
end Go.Proofs.YtllnfiidmpopkaaDoor
