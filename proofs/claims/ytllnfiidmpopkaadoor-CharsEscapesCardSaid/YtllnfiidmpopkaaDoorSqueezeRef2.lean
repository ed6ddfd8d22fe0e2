/-
  What Squeeze of the reference returns at mode 2. Conditions: the string's size.
-/
import Derived.Test.YtllnfiidmpopkaaDoorSqueezeRef
namespace Go.Proofs.YtllnfiidmpopkaaDoor
open Go Go.RowKit

theorem sqRow_le (s : ByteArray) (k : Nat) : (sqRow ((bts s).take k)).length ≤ s.size := by
  have := sqRow_length ((bts s).take k)
  rw [List.length_take, bts_length] at this
  omega
theorem last_getD (out : List Nat) (n : Nat) (h : out.length = n + 1) : out.getLast? = some (out.getD n 0) := by
  rw [List.getLast?_eq_getElem?, h, Nat.add_sub_cancel, List.getD_eq_getElem?_getD, List.getElem?_eq_getElem (by omega)]; rfl

set_option maxRecDepth 100000 in
set_option maxHeartbeats 1000000 in
theorem f23_2 (s : ByteArray) (hs : s.size ≤ 150000) (w : World) (hw : wrongI s = -1) : Calls Tryd.prog 23 #[.string s, .int .i64 2] w fun e w' =>
    e = .returned (.tuple #[.string (str (sqTwo (bts s))), .int .i64 0]) ∧ Below w.heap.size w w' := by
  obtain ⟨i0, hi, hz0, hz1, hz2⟩ := info_parts Tryd.info5
  have hd : decide (wrongI s = -1) = true := decide_eq_true hw
  have HD : Hid _ := Lib.hid hd
  clear hd hw
  go_enter Tryd.func23, Tryd.ntmps23
  go_wp2_with (go_at_call 36; refine (f36_any s (by omega) _).mono ?_; rintro e w0 ⟨rfl, hb0⟩; rw [HD.out])
  go_loopw [6, 7] (fun v i wr => ∃ (k : Nat) (out : List Nat), k ≤ s.size ∧ i = .int .i64 k ∧ out.length ≤ 150000 ∧ Hid (out = sqRow ((bts s).take k)) ∧ wr.ownsRow w.heap.size 5 1 v out.length (u8s out) ∧ Below w.heap.size w wr) (fun _ i _ => s.size - (intOf i).toNat)
  case atStart => exact ⟨0, [], Nat.zero_le _, rfl, by simp, Lib.hid rfl, ⟨rfl, .inl ⟨rfl, rfl⟩⟩, hb0⟩
  case round =>
    obtain ⟨k, out, hk, rfl, hol, hout, hown, hB⟩ := hrel
    by_cases hlt : k < s.size
    · obtain ⟨c, hc⟩ : ∃ c, (s[k]'hlt).toNat = c := ⟨_, rfl⟩
      have hwr : wrap32 (c : Int) = (c : Int) := by have := (s[k]'hlt).toNat_lt; unfold wrap32; omega
      have hlen' : Hid ((sqRow ((bts s).take (k + 1))).length ≤ 150000) := Lib.hid (Nat.le_trans (sqRow_le s (k + 1)) hs)
      have hstep : Hid (sqRow ((bts s).take (k + 1)) = sqStep out c) := Lib.hid (by rw [sqRow_succ s k hlt, ← hout.out, hc])
      cases hbl : Ch.blank (c : Int) with
      | false =>
        have hne : ¬ c = 32 := fun h => by subst h; revert hbl; decide
        have e1 : Hid (sqRow ((bts s).take (k + 1)) = out ++ [c]) := Lib.hid (by rw [hstep.out]; simp [sqStep, sqB, hbl, hne])
        have HBL : Hid _ := Lib.hid hbl
        have hn32 : ((c : Int) == 32) = false := beq_eq_false_iff_ne.2 (by omega)
        clear hbl hout hstep hne
        go_wp2_with (first
          | (go_at_call 11; refine (f11_any _ _).mono ?_; rintro e w3 ⟨rfl, rfl⟩; rw [HBL.out])
          | (at_builtin; go_must (refine wpList_append_own _ rfl _ _ 46 rfl w.heap.size 5 i0 (.int .u8 0) 1 1 Tryd.underlying46 hi hz0 hz1 hz2 rfl (by decide) _ out.length (u8s out) rfl (hown.alloc _) ⟨wr.heap.size, 0, none⟩ 1 1 [.int .u8 (c : Int)] rfl rfl (cell_one_new _ _ _) (by simp [Value.oneCell']) (by unfold maxLen; omega) (by omega) (by have := hB.size; simp; omega) ?_); intro v' w2 hown2 hgrow _))
        go_roundw
        case rel =>
          rw [e1.out] at hlen'
          exact ⟨k + 1, out ++ [c], by omega, by simp, hlen'.out, Lib.hid e1.out.symm, by rw [u8s_append, List.length_append]; exact hown2, hB.grown (grownBy_alloc hgrow) hB.size (fun j e => (Nat.lt_or_ge j w.heap.size).elim (fun hj => absurd e.symm (row_ge hown j hj)) id)⟩
        case measure => simp [intOf]; omega
      | true =>
        have HBL : Hid _ := Lib.hid hbl
        cases ho : out with
        | nil =>
          subst ho
          have e1 : Hid (sqRow ((bts s).take (k + 1)) = []) := Lib.hid (by rw [hstep.out]; simp [sqStep, sqB, hbl])
          clear hbl hout hstep
          obtain ⟨a, cap, rfl⟩ := row_slice hown
          go_wp2_with (go_at_call 11; refine (f11_any _ _).mono ?_; rintro e w3 ⟨rfl, rfl⟩; rw [HBL.out])
          go_roundw
          case rel => exact ⟨k + 1, [], by omega, by simp, by simp, Lib.hid e1.out.symm, hown, hB⟩
          case measure => simp [intOf]; omega
        | cons a0 t0 =>
          obtain ⟨n, hn⟩ : ∃ n, out.length = n + 1 := ⟨t0.length, by rw [ho]; rfl⟩
          have hlast := last_getD out n hn
          have hne : out ≠ [] := by rw [ho]; simp
          clear ho
          obtain ⟨x, hx⟩ : ∃ x, out.getD n 0 = x := ⟨_, rfl⟩
          have hown0 := hown
          rw [hn] at hown0
          obtain ⟨g, cap, rfl, hcap, hcell⟩ := own_last hown0
          rw [hx] at hlast hcell
          have hnz : (((n : Int) + 1) == 0) = false := beq_eq_false_iff_ne.2 (by omega)
          by_cases hx32 : x = 32
          · have e1 : Hid (sqRow ((bts s).take (k + 1)) = out) := Lib.hid (by rw [hstep.out]; simp [sqStep, sqB, hbl, hlast, hx32])
            have hn32 : ((x : Int) == 32) = true := beq_iff_eq.2 (by omega)
            clear hbl hout hstep hlast hne hx32 hx
            go_wp2_with (go_at_call 11; refine (f11_any _ _).mono ?_; rintro e w3 ⟨rfl, rfl⟩; rw [HBL.out])
            go_roundw
            case rel => exact ⟨k + 1, out, by omega, by simp, hol, Lib.hid e1.out.symm, hown, hB⟩
            case measure => simp [intOf]; omega
          · have e1 : Hid (sqRow ((bts s).take (k + 1)) = out ++ [32]) := Lib.hid (by rw [hstep.out]; simp [sqStep, sqB, hbl, hlast, hx32, hne])
            have hn32 : ((x : Int) == 32) = false := beq_eq_false_iff_ne.2 (by omega)
            clear hbl hout hstep hlast hne hx32 hx
            go_wp2_with (first
              | (go_at_call 11; refine (f11_any _ _).mono ?_; rintro e w3 ⟨rfl, rfl⟩; rw [HBL.out])
              | (at_builtin; go_must (refine wpList_append_own _ rfl _ _ 46 rfl w.heap.size 5 i0 (.int .u8 0) 1 1 Tryd.underlying46 hi hz0 hz1 hz2 rfl (by decide) _ out.length (u8s out) rfl (hown.alloc _) ⟨wr.heap.size, 0, none⟩ 1 1 [.int .u8 32] rfl rfl (cell_one_new _ _ _) (by simp [Value.oneCell']) (by unfold maxLen; omega) (by omega) (by have := hB.size; simp; omega) ?_); intro v' w2 hown2 hgrow _))
            go_roundw
            case rel =>
              rw [e1.out] at hlen'
              exact ⟨k + 1, out ++ [32], by omega, by simp, hlen'.out, Lib.hid e1.out.symm, by rw [u8s_append, List.length_append]; exact hown2, hB.grown (grownBy_alloc hgrow) hB.size (fun j e => (Nat.lt_or_ge j w.heap.size).elim (fun hj => absurd e.symm (row_ge hown j hj)) id)⟩
            case measure => simp [intOf]; omega
    · have hke : (bts s).take k = bts s := List.take_of_length_le (by rw [bts_length]; omega)
      rw [hke] at hout
      clear hke
      cases ho : out with
      | nil =>
        subst ho
        have e1 : Hid (sqTwo (bts s) = []) := Lib.hid (by rw [sqTwo, ← hout.out]; simp)
        have hown' := hown
        rw [u8s_i] at hown'
        have hcv := run_str_own hown'
        rw [strI_nat, ← e1.out] at hcv
        have hown2 : wr.ownsRow w.heap.size 5 1 u6 0 [] := hown
        obtain ⟨a, cap, rfl⟩ := row_slice hown2
        clear hout hown' hown hown2
        go_wp2
        go_ret2
        go_light
        exact ⟨rfl, hB⟩
      | cons a0 t0 =>
        obtain ⟨n, hn⟩ : ∃ n, out.length = n + 1 := ⟨t0.length, by rw [ho]; rfl⟩
        have hlast := last_getD out n hn
        clear ho
        obtain ⟨x, hx⟩ : ∃ x, out.getD n 0 = x := ⟨_, rfl⟩
        have hown0 := hown
        rw [hn] at hown0
        obtain ⟨g, cap, rfl, hcap, hcell⟩ := own_last hown0
        rw [hx] at hlast hcell
        have hpos : decide (0 < (n : Int) + 1) = true := decide_eq_true (by omega)
        by_cases hx32 : x = 32
        · have e1 : Hid (sqTwo (bts s) = out.dropLast) := Lib.hid (by rw [sqTwo, ← hout.out, hlast, hx32]; simp)
          have hn32 : ((x : Int) == 32) = true := beq_iff_eq.2 (by omega)
          have hown1 : wr.ownsRow w.heap.size 5 1 (.slice (some ⟨g, 0, none⟩) n cap) n (u8s out.dropLast) := by
            obtain ⟨hl, ⟨h, _⟩ | ⟨g', cap', cur, h, h1, h2, h3, h4, h5, h6⟩⟩ := hown0
            · simp at h
            · simp only [Value.slice.injEq, Option.some.injEq, Addr.mk.injEq, and_true, true_and] at h
              obtain ⟨rfl, rfl⟩ := h
              refine ⟨by rw [u8s_length, List.length_dropLast, hn]; omega, .inr ⟨g, cap, cur, rfl, h1, h2, by omega, h4, h5, ?_⟩⟩
              have : u8s out.dropLast = (u8s out).take (n * 1) := by
                simp only [u8s, List.dropLast_eq_take, hn]; simp
              rw [this, ← h6, List.take_take, Nat.min_eq_left (by omega)]
          rw [u8s_i] at hown1
          have hcv := run_str_own hown1
          rw [strI_nat, ← e1.out] at hcv
          clear hout hown1 hlast hx32 hx
          go_wp2
          go_ret2
          go_light
          exact ⟨rfl, hB⟩
        · have e1 : Hid (sqTwo (bts s) = out) := Lib.hid (by rw [sqTwo, ← hout.out, hlast]; simp [hx32])
          have hn32 : ((x : Int) == 32) = false := beq_eq_false_iff_ne.2 (by omega)
          rw [u8s_i] at hown0
          have hcv := run_str_own hown0
          rw [strI_nat, ← e1.out] at hcv
          clear hout hown0 hlast hx32 hx
          go_wp2
          go_ret2
          go_light
          exact ⟨rfl, hB⟩
end Go.Proofs.YtllnfiidmpopkaaDoor
