/-
  What Escape of the program returns. Conditions: the string's size, the program's table of ranges.
-/
import Derived.Test.YtllnfiidmpopkaaDoorEscapeRef
import Derived.Test.YtllnfiidmpopkaaDoorShelf
namespace Go.Proofs.YtllnfiidmpopkaaDoor
open Go Go.RowKit
theorem itoa_13 (w : World) : Calls Tryd.prog 33 #[.int .i64 13] w fun e w' => e = .returned (.string ⟨#[49, 51]⟩) ∧ w = w' :=
  (Tryd.strconv_Itoa_small 13 (by decide) w).mono fun _ _ ⟨he, hw⟩ => ⟨by rw [show Lib.decDigits 13 = [49, 51] by decide +kernel] at he; exact he, hw.symm⟩
theorem itoa_9 (w : World) : Calls Tryd.prog 33 #[.int .i64 9] w fun e w' => e = .returned (.string ⟨#[57]⟩) ∧ w = w' :=
  (Tryd.strconv_Itoa_small 9 (by decide) w).mono fun _ _ ⟨he, hw⟩ => ⟨by rw [show Lib.decDigits 9 = [57] by decide +kernel] at he; exact he, hw.symm⟩
theorem itoa_10 (w : World) : Calls Tryd.prog 33 #[.int .i64 10] w fun e w' => e = .returned (.string ⟨#[49, 48]⟩) ∧ w = w' :=
  (Tryd.strconv_Itoa_small 10 (by decide) w).mono fun _ _ ⟨he, hw⟩ => ⟨by rw [show Lib.decDigits 10 = [49, 48] by decide +kernel] at he; exact he, hw.symm⟩

theorem bts_all (s : ByteArray) : ∀ b ∈ bts s, b < 256 := by
  intro b hb
  obtain ⟨x, _, rfl⟩ := List.mem_map.1 hb
  exact x.toNat_lt
theorem escAll_lt (l : List Nat) (a : Bool) (h : ∀ b ∈ l, b < 256) : ∀ b ∈ escAll l a, b < 256 := by
  intro b hb
  obtain ⟨c, hc, hbc⟩ := List.mem_flatMap.1 hb
  exact escL_lt c a (h c hc) b hbc
theorem byteCells_u8 (l : List Nat) (h : ∀ b ∈ l, b < 256) : Lib.byteCells (l.map UInt8.ofNat) = u8s l := by
  unfold Lib.byteCells u8s
  rw [List.map_map]
  refine List.map_congr_left (fun b hb => ?_)
  have := h b hb
  simp; omega
set_option maxRecDepth 100000 in
set_option maxHeartbeats 4000000 in
theorem f18_any (s : ByteArray) (a : Bool) (hs : s.size ≤ 150000) (w : World) (hG : Rng w) : Calls Tryd.prog 18 #[.string s, .bool a] w fun e w' =>
    ((wrongI s = -1 ∧ e = .returned (.tuple #[.string (str (escAll (bts s) a)), .int .i64 0])) ∨ (0 ≤ wrongI s ∧ e = .returned (.tuple #[.string ⟨#[]⟩, .int .i64 6]))) ∧ Below w.heap.size w w' := by
  rcases wrongI_cases s with hw | hw
  · have HW : Hid _ := Lib.hid hw
    clear hw
    go_enter Tryd.func18, Tryd.ntmps18
    go_wp2_with (go_at_call 31; refine (f31_any s (by unfold maxLen; omega) _ hG).mono ?_; rintro e w0 ⟨rfl, hb0⟩; rw [HW.out])
    have hbl0 : Lib.IsBuilder 48 5 w.heap.size w0.heap.size (u8s (escAll ((bts s).take 0) a)) (w0.alloc (.cells #[.pointer none, .slice none 0 0] 48)) :=
      .inl ⟨hb0.size, _, World.alloc_heap_new w0 _, ⟨rfl, .inl ⟨rfl, rfl⟩⟩, by simp [Value.ownBlock]⟩
    have hbb0 : Below w.heap.size w (w0.alloc (.cells #[.pointer none, .slice none 0 0] 48)) := hb0.alloc hb0.size _
    go_loopw [14] (fun i wr => ∃ k : Nat, k ≤ s.size ∧ i = .int .i64 k ∧ Lib.IsBuilder 48 5 w.heap.size w0.heap.size (u8s (escAll ((bts s).take k) a)) wr ∧ Below w.heap.size w wr) (fun i _ => s.size - (intOf i).toNat)
    case atStart => exact ⟨0, Nat.zero_le _, rfl, hbl0, hbb0⟩
    case round =>
      obtain ⟨k, hk, rfl, hbld, hB⟩ := hrel
      clear hbl0 hbb0
      by_cases hlt : k < s.size
      · have hel : (u8s (escAll ((bts s).take k) a)).length ≤ 1000000 := by
          rw [u8s_length]; have := escAll_length ((bts s).take k) a; rw [List.length_take, bts_length] at this; omega
        have hes : Hid (escAll ((bts s).take (k + 1)) a = escAll ((bts s).take k) a ++ escL (s[k]'hlt).toNat a) := Lib.hid (escAll_succ s a k hlt)
        have hb256 : (s[k]'hlt).toNat < 256 := (s[k]'hlt).toNat_lt
        cases a with
        | false =>
          by_cases q60 : (s[k]'hlt).toNat = 60
          · have hesc : Hid (escL (s[k]'hlt).toNat false = [38, 108, 116, 59]) := Lib.hid (by rw [q60]; decide)
            go_wp2_with ((go_at_call 32; refine (f32_any w.heap.size w0.heap.size _ _ _ hbld (by first | (simp only [Lib.strCells_length]; omega) | (show _ + _ ≤ _; simp [ByteArray.size]; omega)) hB.size).mono ?_; rintro e w1 ⟨rfl, hbl1, hb1⟩))
            go_roundw
            case rel => exact ⟨k + 1, by omega, by simp, by rw [hes.out, u8s_append, hesc.out]; exact .inr hbl1, hB.trans hb1⟩
            case measure => simp [intOf]; omega
          have n60 : (((s[k]'hlt).toNat : Int) == 60) = false := beq_no q60
          by_cases q62 : (s[k]'hlt).toNat = 62
          · have hesc : Hid (escL (s[k]'hlt).toNat false = [38, 103, 116, 59]) := Lib.hid (by rw [q62]; decide)
            go_wp2_with ((go_at_call 32; refine (f32_any w.heap.size w0.heap.size _ _ _ hbld (by first | (simp only [Lib.strCells_length]; omega) | (show _ + _ ≤ _; simp [ByteArray.size]; omega)) hB.size).mono ?_; rintro e w1 ⟨rfl, hbl1, hb1⟩))
            go_roundw
            case rel => exact ⟨k + 1, by omega, by simp, by rw [hes.out, u8s_append, hesc.out]; exact .inr hbl1, hB.trans hb1⟩
            case measure => simp [intOf]; omega
          have n62 : (((s[k]'hlt).toNat : Int) == 62) = false := beq_no q62
          by_cases q38 : (s[k]'hlt).toNat = 38
          · have hesc : Hid (escL (s[k]'hlt).toNat false = [38, 97, 109, 112, 59]) := Lib.hid (by rw [q38]; decide)
            go_wp2_with ((go_at_call 32; refine (f32_any w.heap.size w0.heap.size _ _ _ hbld (by first | (simp only [Lib.strCells_length]; omega) | (show _ + _ ≤ _; simp [ByteArray.size]; omega)) hB.size).mono ?_; rintro e w1 ⟨rfl, hbl1, hb1⟩))
            go_roundw
            case rel => exact ⟨k + 1, by omega, by simp, by rw [hes.out, u8s_append, hesc.out]; exact .inr hbl1, hB.trans hb1⟩
            case measure => simp [intOf]; omega
          have n38 : (((s[k]'hlt).toNat : Int) == 38) = false := beq_no q38
          by_cases q34 : (s[k]'hlt).toNat = 34
          · have hesc : Hid (escL (s[k]'hlt).toNat false = [34]) := Lib.hid (by rw [q34]; decide)
            go_wp2_with ((go_at_call 34; refine (f34_any w.heap.size w0.heap.size _ _ _ hbld (by omega) hB.size).mono ?_; rintro e w1 ⟨rfl, hbl1, hb1⟩))
            go_roundw
            case rel => exact ⟨k + 1, by omega, by simp, by rw [hes.out, u8s_append, hesc.out]; exact .inr hbl1, hB.trans hb1⟩
            case measure => simp [intOf]; omega
          have n34 : (((s[k]'hlt).toNat : Int) == 34) = false := beq_no q34
          by_cases q13 : (s[k]'hlt).toNat = 13
          · have hesc : Hid (escL (s[k]'hlt).toNat false = [38, 35, 49, 51, 59]) := Lib.hid (by rw [q13]; decide)
            go_wp2_with (first | (go_at_call 33; refine (itoa_13 _).mono ?_; rintro e w3 ⟨rfl, rfl⟩) | (go_at_call 32; refine (f32_any w.heap.size w0.heap.size _ _ _ hbld (by first | (simp only [Lib.strCells_length]; omega) | (show _ + _ ≤ _; simp [ByteArray.size]; omega)) hB.size).mono ?_; rintro e w1 ⟨rfl, hbl1, hb1⟩))
            go_roundw
            case rel => exact ⟨k + 1, by omega, by simp, by rw [hes.out, u8s_append, hesc.out]; exact .inr hbl1, hB.trans hb1⟩
            case measure => simp [intOf]; omega
          have n13 : (((s[k]'hlt).toNat : Int) == 13) = false := beq_no q13
          by_cases q9 : (s[k]'hlt).toNat = 9
          · have hesc : Hid (escL (s[k]'hlt).toNat false = [9]) := Lib.hid (by rw [q9]; decide)
            go_wp2_with ((go_at_call 34; refine (f34_any w.heap.size w0.heap.size _ _ _ hbld (by omega) hB.size).mono ?_; rintro e w1 ⟨rfl, hbl1, hb1⟩))
            go_roundw
            case rel => exact ⟨k + 1, by omega, by simp, by rw [hes.out, u8s_append, hesc.out]; exact .inr hbl1, hB.trans hb1⟩
            case measure => simp [intOf]; omega
          have n9 : (((s[k]'hlt).toNat : Int) == 9) = false := beq_no q9
          by_cases q10 : (s[k]'hlt).toNat = 10
          · have hesc : Hid (escL (s[k]'hlt).toNat false = [10]) := Lib.hid (by rw [q10]; decide)
            go_wp2_with ((go_at_call 34; refine (f34_any w.heap.size w0.heap.size _ _ _ hbld (by omega) hB.size).mono ?_; rintro e w1 ⟨rfl, hbl1, hb1⟩))
            go_roundw
            case rel => exact ⟨k + 1, by omega, by simp, by rw [hes.out, u8s_append, hesc.out]; exact .inr hbl1, hB.trans hb1⟩
            case measure => simp [intOf]; omega
          have n10 : (((s[k]'hlt).toNat : Int) == 10) = false := beq_no q10
          have hesc : Hid (escL (s[k]'hlt).toNat false = [(s[k]'hlt).toNat]) := Lib.hid (by unfold escL; simp [q60, q62, q38, q34, q13, q9, q10])
          clear q60 q62 q38 q34 q13 q9 q10
          go_wp2_with ((go_at_call 34; refine (f34_any w.heap.size w0.heap.size _ _ _ hbld (by omega) hB.size).mono ?_; rintro e w1 ⟨rfl, hbl1, hb1⟩))
          go_roundw
          case rel => exact ⟨k + 1, by omega, by simp, by rw [hes.out, u8s_append, hesc.out]; exact .inr hbl1, hB.trans hb1⟩
          case measure => simp [intOf]; omega
        | true =>
          by_cases q60 : (s[k]'hlt).toNat = 60
          · have hesc : Hid (escL (s[k]'hlt).toNat true = [38, 108, 116, 59]) := Lib.hid (by rw [q60]; decide)
            go_wp2_with ((go_at_call 32; refine (f32_any w.heap.size w0.heap.size _ _ _ hbld (by first | (simp only [Lib.strCells_length]; omega) | (show _ + _ ≤ _; simp [ByteArray.size]; omega)) hB.size).mono ?_; rintro e w1 ⟨rfl, hbl1, hb1⟩))
            go_roundw
            case rel => exact ⟨k + 1, by omega, by simp, by rw [hes.out, u8s_append, hesc.out]; exact .inr hbl1, hB.trans hb1⟩
            case measure => simp [intOf]; omega
          have n60 : (((s[k]'hlt).toNat : Int) == 60) = false := beq_no q60
          by_cases q62 : (s[k]'hlt).toNat = 62
          · have hesc : Hid (escL (s[k]'hlt).toNat true = [38, 103, 116, 59]) := Lib.hid (by rw [q62]; decide)
            go_wp2_with ((go_at_call 32; refine (f32_any w.heap.size w0.heap.size _ _ _ hbld (by first | (simp only [Lib.strCells_length]; omega) | (show _ + _ ≤ _; simp [ByteArray.size]; omega)) hB.size).mono ?_; rintro e w1 ⟨rfl, hbl1, hb1⟩))
            go_roundw
            case rel => exact ⟨k + 1, by omega, by simp, by rw [hes.out, u8s_append, hesc.out]; exact .inr hbl1, hB.trans hb1⟩
            case measure => simp [intOf]; omega
          have n62 : (((s[k]'hlt).toNat : Int) == 62) = false := beq_no q62
          by_cases q38 : (s[k]'hlt).toNat = 38
          · have hesc : Hid (escL (s[k]'hlt).toNat true = [38, 97, 109, 112, 59]) := Lib.hid (by rw [q38]; decide)
            go_wp2_with ((go_at_call 32; refine (f32_any w.heap.size w0.heap.size _ _ _ hbld (by first | (simp only [Lib.strCells_length]; omega) | (show _ + _ ≤ _; simp [ByteArray.size]; omega)) hB.size).mono ?_; rintro e w1 ⟨rfl, hbl1, hb1⟩))
            go_roundw
            case rel => exact ⟨k + 1, by omega, by simp, by rw [hes.out, u8s_append, hesc.out]; exact .inr hbl1, hB.trans hb1⟩
            case measure => simp [intOf]; omega
          have n38 : (((s[k]'hlt).toNat : Int) == 38) = false := beq_no q38
          by_cases q34 : (s[k]'hlt).toNat = 34
          · have hesc : Hid (escL (s[k]'hlt).toNat true = [38, 113, 117, 111, 116, 59]) := Lib.hid (by rw [q34]; decide)
            go_wp2_with ((go_at_call 32; refine (f32_any w.heap.size w0.heap.size _ _ _ hbld (by first | (simp only [Lib.strCells_length]; omega) | (show _ + _ ≤ _; simp [ByteArray.size]; omega)) hB.size).mono ?_; rintro e w1 ⟨rfl, hbl1, hb1⟩))
            go_roundw
            case rel => exact ⟨k + 1, by omega, by simp, by rw [hes.out, u8s_append, hesc.out]; exact .inr hbl1, hB.trans hb1⟩
            case measure => simp [intOf]; omega
          have n34 : (((s[k]'hlt).toNat : Int) == 34) = false := beq_no q34
          by_cases q13 : (s[k]'hlt).toNat = 13
          · have hesc : Hid (escL (s[k]'hlt).toNat true = [38, 35, 49, 51, 59]) := Lib.hid (by rw [q13]; decide)
            go_wp2_with (first | (go_at_call 33; refine (itoa_13 _).mono ?_; rintro e w3 ⟨rfl, rfl⟩) | (go_at_call 32; refine (f32_any w.heap.size w0.heap.size _ _ _ hbld (by first | (simp only [Lib.strCells_length]; omega) | (show _ + _ ≤ _; simp [ByteArray.size]; omega)) hB.size).mono ?_; rintro e w1 ⟨rfl, hbl1, hb1⟩))
            go_roundw
            case rel => exact ⟨k + 1, by omega, by simp, by rw [hes.out, u8s_append, hesc.out]; exact .inr hbl1, hB.trans hb1⟩
            case measure => simp [intOf]; omega
          have n13 : (((s[k]'hlt).toNat : Int) == 13) = false := beq_no q13
          by_cases q9 : (s[k]'hlt).toNat = 9
          · have hesc : Hid (escL (s[k]'hlt).toNat true = [38, 35, 57, 59]) := Lib.hid (by rw [q9]; decide)
            go_wp2_with (first | (go_at_call 33; refine (itoa_9 _).mono ?_; rintro e w3 ⟨rfl, rfl⟩) | (go_at_call 32; refine (f32_any w.heap.size w0.heap.size _ _ _ hbld (by first | (simp only [Lib.strCells_length]; omega) | (show _ + _ ≤ _; simp [ByteArray.size]; omega)) hB.size).mono ?_; rintro e w1 ⟨rfl, hbl1, hb1⟩))
            go_roundw
            case rel => exact ⟨k + 1, by omega, by simp, by rw [hes.out, u8s_append, hesc.out]; exact .inr hbl1, hB.trans hb1⟩
            case measure => simp [intOf]; omega
          have n9 : (((s[k]'hlt).toNat : Int) == 9) = false := beq_no q9
          by_cases q10 : (s[k]'hlt).toNat = 10
          · have hesc : Hid (escL (s[k]'hlt).toNat true = [38, 35, 49, 48, 59]) := Lib.hid (by rw [q10]; decide)
            go_wp2_with (first | (go_at_call 33; refine (itoa_10 _).mono ?_; rintro e w3 ⟨rfl, rfl⟩) | (go_at_call 32; refine (f32_any w.heap.size w0.heap.size _ _ _ hbld (by first | (simp only [Lib.strCells_length]; omega) | (show _ + _ ≤ _; simp [ByteArray.size]; omega)) hB.size).mono ?_; rintro e w1 ⟨rfl, hbl1, hb1⟩))
            go_roundw
            case rel => exact ⟨k + 1, by omega, by simp, by rw [hes.out, u8s_append, hesc.out]; exact .inr hbl1, hB.trans hb1⟩
            case measure => simp [intOf]; omega
          have n10 : (((s[k]'hlt).toNat : Int) == 10) = false := beq_no q10
          have hesc : Hid (escL (s[k]'hlt).toNat true = [(s[k]'hlt).toNat]) := Lib.hid (by unfold escL; simp [q60, q62, q38, q34, q13, q9, q10])
          clear q60 q62 q38 q34 q13 q9 q10
          go_wp2_with ((go_at_call 34; refine (f34_any w.heap.size w0.heap.size _ _ _ hbld (by omega) hB.size).mono ?_; rintro e w1 ⟨rfl, hbl1, hb1⟩))
          go_roundw
          case rel => exact ⟨k + 1, by omega, by simp, by rw [hes.out, u8s_append, hesc.out]; exact .inr hbl1, hB.trans hb1⟩
          case measure => simp [intOf]; omega
      · have hke : (bts s).take k = bts s := List.take_of_length_le (by rw [bts_length]; omega)
        rw [hke] at hbld
        have hbld' : Lib.IsBuilder 48 5 w.heap.size w0.heap.size (Lib.byteCells ((escAll (bts s) a).map UInt8.ofNat)) wr := by
          rw [byteCells_u8 _ (escAll_lt _ a (bts_all s))]; exact hbld
        clear hke
        go_wp2_with (go_at_call 35; refine (Tryd.Builder_String_any w.heap.size w0.heap.size _ _ hbld' hB.size).mono ?_; rintro e w1 ⟨rfl, hb1⟩)
        go_ret2
        go_light
        exact ⟨.inl ⟨HW.out, rfl⟩, hB.trans hb1⟩
  · have hd : decide (0 ≤ wrongI s) = true := decide_eq_true hw
    have HW : Hid _ := Lib.hid hw
    clear hw
    go_enter Tryd.func18, Tryd.ntmps18
    go_wp2_with (go_at_call 31; refine (f31_any s (by unfold maxLen; omega) _ hG).mono ?_; rintro e w0 ⟨rfl, hb0⟩)
    go_ret2
    go_light
    exact ⟨.inr ⟨HW.out, rfl⟩, hb0⟩
end Go.Proofs.YtllnfiidmpopkaaDoor
