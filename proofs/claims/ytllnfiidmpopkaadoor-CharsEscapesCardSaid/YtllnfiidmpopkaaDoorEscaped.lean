/-
  What 'Escaped' of the reference returns. Condition: the string's size.
-/
import Derived.Test.YtllnfiidmpopkaaDoorUnesc
import Derived.Test.YtllnfiidmpopkaaDoorMeaning
import Derived.WalkLawsBesides
namespace Go.Proofs.YtllnfiidmpopkaaDoor
open Go Go.RowKit

/-- What 'Escaped' answers. -/
def EscSaid (k : ByteArray) (e : Ending) : Prop := (∃ c, charM (bts k) = some c ∧ e = .returned (.tuple #[.int .i32 (c : Int), .bool true])) ∨ (charM (bts k) = none ∧ e = .returned (.tuple #[.int .i32 0, .bool false]))
theorem EscSaid.yes {k : ByteArray} {c : Nat} (h : charM (bts k) = some c) {a : Int} (ha : a = (c : Int)) : EscSaid k (.returned (.tuple #[.int .i32 a, .bool true])) := .inl ⟨c, h, by rw [ha]⟩
theorem EscSaid.no {k : ByteArray} (h : charM (bts k) = none) : EscSaid k (.returned (.tuple #[.int .i32 0, .bool false])) := .inr ⟨h, rfl⟩
theorem decV_succ (l : List Nat) (k : Nat) (h : k < l.length) : decV (l.take (k + 1)) = decV (l.take k) * 10 + (l[k] - 48) := by
  rw [decV, List.take_succ_eq_append_getElem h, List.foldl_append]; rfl
theorem word_beq (k : ByteArray) (l : List UInt8) : (k.toList == l) = decide (bts k = l.map UInt8.toNat) := by
  rw [ByteArray.toList_eq, Bool.eq_iff_iff]
  simp only [beq_iff_eq, decide_eq_true_eq]
  constructor
  · rintro rfl; rfl
  · intro h; exact (List.map_inj_right (f := UInt8.toNat) (fun _ _ e => UInt8.toNat_inj.1 e)).1 h
theorem head_byte {k : ByteArray} {b : Nat} (h : (bts k).head? = some b) : ∃ hp : 0 < k.size, (k[0]'hp).toNat = b := by
  have hl : 0 < (bts k).length := by
    cases hb : bts k with
    | nil => rw [hb] at h; cases h
    | cons _ _ => simp
  refine ⟨by rw [← bts_length]; exact hl, ?_⟩
  rw [← bts_get k 0 (by rw [← bts_length]; exact hl)]
  rw [List.head?_eq_getElem?, List.getElem?_eq_getElem hl] at h
  exact Option.some.inj h
theorem bts_tail (k : ByteArray) : bts (k.extract 1 k.size) = (bts k).tail := by
  rw [bts_extract, List.take_of_length_le (by rw [bts_length]; exact Nat.le_refl _), List.drop_one]
theorem neq_of {a b : Nat} (h : a ≠ b) : ((a : Int) == (b : Int)) = false := beq_eq_false_iff_ne.2 (by omega)
set_option maxRecDepth 100000 in
set_option maxHeartbeats 1000000 in
theorem f40_n1 (k : ByteArray) (w : World) (q1 : (k.toList == [108, 116]) = true) : Calls Tryd.prog 40 #[.string k] w fun e w' => e = .returned (.tuple #[.int .i32 60, .bool true]) ∧ Below w.heap.size w w' := by
  go_enter Tryd.func40, Tryd.ntmps40
  go_wp2
  refine wp_loop_rounds 6 ?_
  rw [rounds_succ]
  go_wp2
  go_ret2
  go_light
  exact ⟨rfl, ((Below.refl _ _).alloc (by simp) _).alloc (by simp) _⟩
set_option maxRecDepth 100000 in
set_option maxHeartbeats 1000000 in
theorem f40_n2 (k : ByteArray) (w : World) (q1 : (k.toList == [108, 116]) = false) (q2 : (k.toList == [103, 116]) = true) : Calls Tryd.prog 40 #[.string k] w fun e w' => e = .returned (.tuple #[.int .i32 62, .bool true]) ∧ Below w.heap.size w w' := by
  go_enter Tryd.func40, Tryd.ntmps40
  go_wp2
  refine wp_loop_rounds 6 ?_
  rw [rounds_succ]
  go_wp2
  rw [rounds_succ]
  go_wp2
  go_ret2
  go_light
  exact ⟨rfl, ((Below.refl _ _).alloc (by simp) _).alloc (by simp) _⟩
set_option maxRecDepth 100000 in
set_option maxHeartbeats 1000000 in
theorem f40_n3 (k : ByteArray) (w : World) (q1 : (k.toList == [108, 116]) = false) (q2 : (k.toList == [103, 116]) = false) (q3 : (k.toList == [97, 109, 112]) = true) : Calls Tryd.prog 40 #[.string k] w fun e w' => e = .returned (.tuple #[.int .i32 38, .bool true]) ∧ Below w.heap.size w w' := by
  go_enter Tryd.func40, Tryd.ntmps40
  go_wp2
  refine wp_loop_rounds 6 ?_
  rw [rounds_succ]
  go_wp2
  rw [rounds_succ]
  go_wp2
  rw [rounds_succ]
  go_wp2
  go_ret2
  go_light
  exact ⟨rfl, ((Below.refl _ _).alloc (by simp) _).alloc (by simp) _⟩
set_option maxRecDepth 100000 in
set_option maxHeartbeats 1000000 in
theorem f40_n4 (k : ByteArray) (w : World) (q1 : (k.toList == [108, 116]) = false) (q2 : (k.toList == [103, 116]) = false) (q3 : (k.toList == [97, 109, 112]) = false) (q4 : (k.toList == [113, 117, 111, 116]) = true) : Calls Tryd.prog 40 #[.string k] w fun e w' => e = .returned (.tuple #[.int .i32 34, .bool true]) ∧ Below w.heap.size w w' := by
  go_enter Tryd.func40, Tryd.ntmps40
  go_wp2
  refine wp_loop_rounds 6 ?_
  rw [rounds_succ]
  go_wp2
  rw [rounds_succ]
  go_wp2
  rw [rounds_succ]
  go_wp2
  rw [rounds_succ]
  go_wp2
  go_ret2
  go_light
  exact ⟨rfl, ((Below.refl _ _).alloc (by simp) _).alloc (by simp) _⟩
set_option maxRecDepth 100000 in
set_option maxHeartbeats 1000000 in
theorem f40_n5 (k : ByteArray) (w : World) (q1 : (k.toList == [108, 116]) = false) (q2 : (k.toList == [103, 116]) = false) (q3 : (k.toList == [97, 109, 112]) = false) (q4 : (k.toList == [113, 117, 111, 116]) = false) (q5 : (k.toList == [97, 112, 111, 115]) = true) : Calls Tryd.prog 40 #[.string k] w fun e w' => e = .returned (.tuple #[.int .i32 39, .bool true]) ∧ Below w.heap.size w w' := by
  go_enter Tryd.func40, Tryd.ntmps40
  go_wp2
  refine wp_loop_rounds 6 ?_
  rw [rounds_succ]
  go_wp2
  rw [rounds_succ]
  go_wp2
  rw [rounds_succ]
  go_wp2
  rw [rounds_succ]
  go_wp2
  rw [rounds_succ]
  go_wp2
  go_ret2
  go_light
  exact ⟨rfl, ((Below.refl _ _).alloc (by simp) _).alloc (by simp) _⟩
theorem below_two (w : World) (a b : Obj) : Below w.heap.size w ((w.alloc a).alloc b) := ((Below.refl _ _).alloc (Nat.le_refl _) _).alloc (by simp) _
set_option maxRecDepth 100000 in
set_option maxHeartbeats 1000000 in
theorem f40_empty (k : ByteArray) (w : World) (q1 : (k.toList == [108, 116]) = false) (q2 : (k.toList == [103, 116]) = false) (q3 : (k.toList == [97, 109, 112]) = false) (q4 : (k.toList == [113, 117, 111, 116]) = false) (q5 : (k.toList == [97, 112, 111, 115]) = false) (he : k.toList.isEmpty = true) : Calls Tryd.prog 40 #[.string k] w fun e w' => e = .returned (.tuple #[.int .i32 0, .bool false]) ∧ Below w.heap.size w w' := by
  go_enter Tryd.func40, Tryd.ntmps40
  go_wp2
  refine wp_loop_rounds 6 ?_
  rw [rounds_succ]
  go_wp2
  iterate 5 (rw [rounds_succ]; go_wp2)
  go_ret2
  go_light
  exact ⟨rfl, below_two _ _ _⟩
set_option maxRecDepth 100000 in
set_option maxHeartbeats 1000000 in
theorem f40_bare (k : ByteArray) (w : World) (q1 : (k.toList == [108, 116]) = false) (q2 : (k.toList == [103, 116]) = false) (q3 : (k.toList == [97, 109, 112]) = false) (q4 : (k.toList == [113, 117, 111, 116]) = false) (q5 : (k.toList == [97, 112, 111, 115]) = false) (hpos : 0 < k.size) (he : k.toList.isEmpty = false) (b : Nat) (hb : ((b : Int) == 35) = false) (hc0 : (k[0]'hpos).toNat = b) : Calls Tryd.prog 40 #[.string k] w fun e w' => e = .returned (.tuple #[.int .i32 0, .bool false]) ∧ Below w.heap.size w w' := by
  go_enter Tryd.func40, Tryd.ntmps40
  go_wp2
  refine wp_loop_rounds 6 ?_
  rw [rounds_succ]
  go_wp2
  iterate 5 (rw [rounds_succ]; go_wp2)
  go_ret2
  go_light
  exact ⟨rfl, below_two _ _ _⟩
set_option maxRecDepth 100000 in
set_option maxHeartbeats 1000000 in
theorem f40_sharp (k r : ByteArray) (w : World) (hk : k.size ≤ 1000000) (q1 : (k.toList == [108, 116]) = false) (q2 : (k.toList == [103, 116]) = false) (q3 : (k.toList == [97, 109, 112]) = false) (q4 : (k.toList == [113, 117, 111, 116]) = false) (q5 : (k.toList == [97, 112, 111, 115]) = false) (hpos : 0 < k.size) (he : k.toList.isEmpty = false) (hc0 : (k[0]'hpos).toNat = 35) (hr : k.extract 1 k.size = r) (her : r.toList.isEmpty = true) : Calls Tryd.prog 40 #[.string k] w fun e w' => e = .returned (.tuple #[.int .i32 0, .bool false]) ∧ Below w.heap.size w w' := by
  go_enter Tryd.func40, Tryd.ntmps40
  go_wp2
  refine wp_loop_rounds 6 ?_
  rw [rounds_succ]
  go_wp2
  iterate 5 (rw [rounds_succ]; go_wp2)
  go_quiet (fail)
  go_wp2
  go_ret2
  go_light
  exact ⟨rfl, below_drewN (below_two _ _ _) _⟩
set_option maxRecDepth 100000 in
set_option maxHeartbeats 1000000 in
theorem f40_x0 (k r t : ByteArray) (w : World) (hk : k.size ≤ 1000000) (q1 : (k.toList == [108, 116]) = false) (q2 : (k.toList == [103, 116]) = false) (q3 : (k.toList == [97, 109, 112]) = false) (q4 : (k.toList == [113, 117, 111, 116]) = false) (q5 : (k.toList == [97, 112, 111, 115]) = false) (hpos : 0 < k.size) (he : k.toList.isEmpty = false) (hc0 : (k[0]'hpos).toNat = 35) (hr : k.extract 1 k.size = r) (her : r.toList.isEmpty = false) (hposr : 0 < r.size) (hc1 : (r[0]'hposr).toNat = 120) (ht : r.extract 1 r.size = t) (het : t.toList.isEmpty = true) : Calls Tryd.prog 40 #[.string k] w fun e w' => e = .returned (.tuple #[.int .i32 0, .bool false]) ∧ Below w.heap.size w w' := by
  have hrs : r.size ≤ 1000000 := by rw [← hr]; simp; omega
  go_enter Tryd.func40, Tryd.ntmps40
  go_wp2
  refine wp_loop_rounds 6 ?_
  rw [rounds_succ]
  go_wp2
  iterate 5 (rw [rounds_succ]; go_wp2)
  go_quiet (fail)
  go_wp2
  go_quiet (fail)
  go_wp2
  go_ret2
  go_light
  exact ⟨rfl, below_drewN (below_two _ _ _) _⟩
set_option maxRecDepth 100000 in
set_option maxHeartbeats 1000000 in
theorem f40_x20 (k r t : ByteArray) (w : World) (hk : k.size ≤ 1000000) (q1 : (k.toList == [108, 116]) = false) (q2 : (k.toList == [103, 116]) = false) (q3 : (k.toList == [97, 109, 112]) = false) (q4 : (k.toList == [113, 117, 111, 116]) = false) (q5 : (k.toList == [97, 112, 111, 115]) = false) (hpos : 0 < k.size) (he : k.toList.isEmpty = false) (hc0 : (k[0]'hpos).toNat = 35) (hr : k.extract 1 k.size = r) (her : r.toList.isEmpty = false) (hposr : 0 < r.size) (hc1 : (r[0]'hposr).toNat = 120) (ht : r.extract 1 r.size = t) (het : t.toList.isEmpty = false) (h20 : 20 < t.size) : Calls Tryd.prog 40 #[.string k] w fun e w' => e = .returned (.tuple #[.int .i32 0, .bool false]) ∧ Below w.heap.size w w' := by
  have hrs : r.size ≤ 1000000 := by rw [← hr]; simp; omega
  go_enter Tryd.func40, Tryd.ntmps40
  go_wp2
  refine wp_loop_rounds 6 ?_
  rw [rounds_succ]
  go_wp2
  iterate 5 (rw [rounds_succ]; go_wp2)
  go_quiet (fail)
  go_wp2
  go_quiet (fail)
  go_wp2
  go_ret2
  go_light
  exact ⟨rfl, below_drewN (below_two _ _ _) _⟩
set_option maxRecDepth 100000 in
set_option maxHeartbeats 4000000 in
theorem f40_xn (k r t : ByteArray) (w : World) (hk : k.size ≤ 1000000) (q1 : (k.toList == [108, 116]) = false) (q2 : (k.toList == [103, 116]) = false) (q3 : (k.toList == [97, 109, 112]) = false) (q4 : (k.toList == [113, 117, 111, 116]) = false) (q5 : (k.toList == [97, 112, 111, 115]) = false) (hpos : 0 < k.size) (he : k.toList.isEmpty = false) (hc0 : (k[0]'hpos).toNat = 35) (hr : k.extract 1 k.size = r) (her : r.toList.isEmpty = false) (hposr : 0 < r.size) (hc1 : (r[0]'hposr).toNat = 120) (ht : r.extract 1 r.size = t) (het : t.toList.isEmpty = false) (h20 : t.size ≤ 20) (hM : Hid (charM (bts k) = if (bts t).all hexOk then chM (hexV (bts t)) else none)) : Calls Tryd.prog 40 #[.string k] w fun e w' => EscSaid k e ∧ Below w.heap.size w w' := by
  have hrs : r.size ≤ 1000000 := by rw [← hr]; simp; omega
  go_enter Tryd.func40, Tryd.ntmps40
  go_wp2
  refine wp_loop_rounds 6 ?_
  rw [rounds_succ]
  go_wp2
  iterate 5 (rw [rounds_succ]; go_wp2)
  go_quiet (fail)
  go_wp2
  go_quiet (fail)
  go_wp2_with (fail)
  clear q1 q2 q3 q4 q5 he hc0 hr her hc1 ht
  obtain ⟨W0, hW0⟩ : ∃ W0 : World, W0 = ((w.alloc (.cells #[.string ⟨#[108, 116]⟩, .string ⟨#[103, 116]⟩, .string ⟨#[97, 109, 112]⟩, .string ⟨#[113, 117, 111, 116]⟩, .string ⟨#[97, 112, 111, 115]⟩] 75)).alloc (.cells #[.int .i32 60, .int .i32 62, .int .i32 38, .int .i32 34, .int .i32 39] 76)) := ⟨_, rfl⟩
  have hB0 : Below w.heap.size w W0 := by rw [hW0]; exact below_two _ _ _
  rw [← hW0]
  clear hW0
  go_loop [8, 9] (fun n i => ∃ (j : Nat) (a : Int), j ≤ t.size ∧ i = .int .i64 j ∧ n = .int .i64 a ∧ 0 ≤ a ∧ a ≤ 2000000 ∧ Hid (a = (min (hexV ((bts t).take j)) 2000000 : Nat)) ∧ Hid (((bts t).take j).all hexOk = true)) (fun _ i => t.size - (intOf i).toNat)
  case atStart => exact ⟨0, 0, Nat.zero_le _, rfl, rfl, by omega, by omega, Lib.hid rfl, Lib.hid rfl⟩
  case round =>
    obtain ⟨j, a, hj, rfl, rfl, a0, a1, hA, hall⟩ := hrel
    by_cases hlt : j < t.size
    · have hlb : j < (bts t).length := by rw [bts_length]; exact hlt
      obtain ⟨c, hc⟩ : ∃ c, (t[j]'hlt).toNat = c := ⟨_, rfl⟩
      have hcb : (bts t)[j]'hlb = c := by rw [bts_get t j hlt, hc]
      have hc256 : c < 256 := by rw [← hc]; exact (t[j]'hlt).toNat_lt
      cases hv : hexOk c with
      | true =>
        obtain ⟨d, hd⟩ : ∃ d, hexD c = d := ⟨_, rfl⟩
        have hd16 : d < 16 := by rw [← hd]; exact hexD_lt hv
        have HD : Hid (digN c true = (d : Int)) := Lib.hid (by simp [digN, hv, hd])
        have hA2 : Hid (min (a * 16 + (d : Int)) 2000000 = (min (hexV ((bts t).take (j + 1))) 2000000 : Nat)) := Lib.hid (by
          rw [hexV_succ _ _ hlb, hcb, hd, hA.out]
          simp only [Nat.min_def, Int.min_def]
          split <;> split <;> split <;> omega)
        have hall2 : Hid (((bts t).take (j + 1)).all hexOk = true) := Lib.hid (by rw [List.take_succ_eq_append_getElem hlb, List.all_append, hall.out, hcb]; simp [hv])
        clear hv hcb hd hA hall
        go_wp2_with (go_at_call 53; refine (f53_16 c hc256 _).mono ?_; rintro e w3 ⟨rfl, rfl⟩; rw [HD.out])
        go_round
        case rel => exact ⟨j + 1, _, by omega, by simp, rfl, by omega, by omega, hA2, hall2⟩
        case measure => simp [intOf]; omega
      | false =>
        have HD : Hid (digN c true = -1) := Lib.hid (by simp [digN, hv])
        have hF : Hid (charM (bts k) = none) := Lib.hid (by
          rw [hM.out, if_neg]
          intro h
          have := List.all_eq_true.1 h c (hcb ▸ List.getElem_mem hlb)
          rw [hv] at this; cases this)
        clear hv hcb hA hall
        go_wp2_with (go_at_call 53; refine (f53_16 c hc256 _).mono ?_; rintro e w3 ⟨rfl, rfl⟩; rw [HD.out])
        go_ret2
        go_light
        exact ⟨EscSaid.no hF.out, below_drewN hB0 _⟩
    · have hke : (bts t).take j = bts t := List.take_of_length_le (by rw [bts_length]; omega)
      rw [hke] at hA hall
      have hM3 : charM (bts k) = chM (hexV (bts t)) := by rw [hM.out, if_pos hall.out]
      obtain ⟨V, hVe⟩ : ∃ V, hexV (bts t) = V := ⟨_, rfl⟩
      have ha := hA.out
      rw [hVe] at hM3 ha
      clear hA hall hke hVe hM
      cases hva : Ch.valid a with
      | false =>
        have hF : Hid (charM (bts k) = none) := Lib.hid (by
          rw [hM3, chM, if_neg]
          rintro ⟨h1, h2⟩
          have : a = (V : Int) := by rw [ha, Nat.min_def]; split <;> omega
          rw [this, h2] at hva; cases hva)
        have HVA : Hid _ := Lib.hid hva
        clear hM3 hva ha
        go_wp2_with (go_at_call 9; refine (f9_any _ _).mono ?_; rintro e w4 ⟨rfl, rfl⟩; rw [HVA.out])
        go_ret2
        go_light
        exact ⟨EscSaid.no hF.out, below_drewN hB0 _⟩
      | true =>
        have hle := (Ch.valid_le hva).2
        have hav : a = (V : Int) := by rw [Nat.min_def] at ha; split at ha <;> omega
        have hF : Hid (charM (bts k) = some V) := Lib.hid (by rw [hM3, chM, if_pos ⟨by omega, by rw [← hav]; exact hva⟩])
        have HVA : Hid _ := Lib.hid hva
        have HAV : Hid _ := Lib.hid hav
        clear hM3 hva ha hav
        go_wp2_with (go_at_call 9; refine (f9_any _ _).mono ?_; rintro e w4 ⟨rfl, rfl⟩; rw [HVA.out])
        go_ret2
        go_light
        exact ⟨EscSaid.yes hF.out HAV.out, below_drewN hB0 _⟩
set_option maxRecDepth 100000 in
set_option maxHeartbeats 1000000 in
theorem f40_d20 (k r : ByteArray) (w : World) (hk : k.size ≤ 1000000) (q1 : (k.toList == [108, 116]) = false) (q2 : (k.toList == [103, 116]) = false) (q3 : (k.toList == [97, 109, 112]) = false) (q4 : (k.toList == [113, 117, 111, 116]) = false) (q5 : (k.toList == [97, 112, 111, 115]) = false) (hpos : 0 < k.size) (he : k.toList.isEmpty = false) (hc0 : (k[0]'hpos).toNat = 35) (hr : k.extract 1 k.size = r) (her : r.toList.isEmpty = false) (hposr : 0 < r.size) (b : Nat) (hb : ((b : Int) == 120) = false) (hc1 : (r[0]'hposr).toNat = b) (h20 : 20 < r.size) : Calls Tryd.prog 40 #[.string k] w fun e w' => e = .returned (.tuple #[.int .i32 0, .bool false]) ∧ Below w.heap.size w w' := by
  go_enter Tryd.func40, Tryd.ntmps40
  go_wp2
  refine wp_loop_rounds 6 ?_
  rw [rounds_succ]
  go_wp2
  iterate 5 (rw [rounds_succ]; go_wp2)
  go_quiet (fail)
  go_wp2
  go_ret2
  go_light
  exact ⟨rfl, below_drewN (below_two _ _ _) _⟩
set_option maxRecDepth 100000 in
set_option maxHeartbeats 4000000 in
theorem f40_dn (k r : ByteArray) (w : World) (hk : k.size ≤ 1000000) (q1 : (k.toList == [108, 116]) = false) (q2 : (k.toList == [103, 116]) = false) (q3 : (k.toList == [97, 109, 112]) = false) (q4 : (k.toList == [113, 117, 111, 116]) = false) (q5 : (k.toList == [97, 112, 111, 115]) = false) (hpos : 0 < k.size) (he : k.toList.isEmpty = false) (hc0 : (k[0]'hpos).toNat = 35) (hr : k.extract 1 k.size = r) (her : r.toList.isEmpty = false) (hposr : 0 < r.size) (b : Nat) (hb : ((b : Int) == 120) = false) (hc1 : (r[0]'hposr).toNat = b) (h20 : r.size ≤ 20) (hM : Hid (charM (bts k) = if (bts r).all decOk then chM (decV (bts r)) else none)) : Calls Tryd.prog 40 #[.string k] w fun e w' => EscSaid k e ∧ Below w.heap.size w w' := by
  go_enter Tryd.func40, Tryd.ntmps40
  go_wp2
  refine wp_loop_rounds 6 ?_
  rw [rounds_succ]
  go_wp2
  iterate 5 (rw [rounds_succ]; go_wp2)
  go_quiet (fail)
  go_wp2_with (fail)
  clear q1 q2 q3 q4 q5 he hc0 hr hc1 hb
  obtain ⟨W0, hW0⟩ : ∃ W0 : World, W0 = ((w.alloc (.cells #[.string ⟨#[108, 116]⟩, .string ⟨#[103, 116]⟩, .string ⟨#[97, 109, 112]⟩, .string ⟨#[113, 117, 111, 116]⟩, .string ⟨#[97, 112, 111, 115]⟩] 75)).alloc (.cells #[.int .i32 60, .int .i32 62, .int .i32 38, .int .i32 34, .int .i32 39] 76)) := ⟨_, rfl⟩
  have hB0 : Below w.heap.size w W0 := by rw [hW0]; exact below_two _ _ _
  rw [← hW0]
  clear hW0
  go_loop [8, 9] (fun n i => ∃ (j : Nat) (a : Int), j ≤ r.size ∧ i = .int .i64 j ∧ n = .int .i64 a ∧ 0 ≤ a ∧ a ≤ 2000000 ∧ Hid (a = (min (decV ((bts r).take j)) 2000000 : Nat)) ∧ Hid (((bts r).take j).all decOk = true)) (fun _ i => r.size - (intOf i).toNat)
  case atStart => exact ⟨0, 0, Nat.zero_le _, rfl, rfl, by omega, by omega, Lib.hid rfl, Lib.hid rfl⟩
  case round =>
    obtain ⟨j, a, hj, rfl, rfl, a0, a1, hA, hall⟩ := hrel
    by_cases hlt : j < r.size
    · have hlb : j < (bts r).length := by rw [bts_length]; exact hlt
      obtain ⟨c, hc⟩ : ∃ c, (r[j]'hlt).toNat = c := ⟨_, rfl⟩
      have hcb : (bts r)[j]'hlb = c := by rw [bts_get r j hlt, hc]
      have hc256 : c < 256 := by rw [← hc]; exact (r[j]'hlt).toNat_lt
      cases hv : decOk c with
      | true =>
        obtain ⟨d, hd⟩ : ∃ d, c - 48 = d := ⟨_, rfl⟩
        have hd16 : d < 16 := by rw [← hd]; simp [decOk] at hv; omega
        have HD : Hid (digN c false = (d : Int)) := Lib.hid (by simp [digN, hv, ← hd])
        have hA2 : Hid (min (a * 10 + (d : Int)) 2000000 = (min (decV ((bts r).take (j + 1))) 2000000 : Nat)) := Lib.hid (by
          rw [decV_succ _ _ hlb, hcb, hd, hA.out]
          simp only [Nat.min_def, Int.min_def]
          split <;> split <;> split <;> omega)
        have hall2 : Hid (((bts r).take (j + 1)).all decOk = true) := Lib.hid (by rw [List.take_succ_eq_append_getElem hlb, List.all_append, hall.out, hcb]; simp [hv])
        clear hv hcb hd hA hall
        go_wp2_with (go_at_call 53; refine (f53_10 c hc256 _).mono ?_; rintro e w3 ⟨rfl, rfl⟩; rw [HD.out])
        go_round
        case rel => exact ⟨j + 1, _, by omega, by simp, rfl, by omega, by omega, hA2, hall2⟩
        case measure => simp [intOf]; omega
      | false =>
        have HD : Hid (digN c false = -1) := Lib.hid (by simp [digN, hv])
        have hF : Hid (charM (bts k) = none) := Lib.hid (by
          rw [hM.out, if_neg]
          intro h
          have := List.all_eq_true.1 h c (hcb ▸ List.getElem_mem hlb)
          rw [hv] at this; cases this)
        clear hv hcb hA hall
        go_wp2_with (go_at_call 53; refine (f53_10 c hc256 _).mono ?_; rintro e w3 ⟨rfl, rfl⟩; rw [HD.out])
        go_ret2
        go_light
        exact ⟨EscSaid.no hF.out, below_drewN hB0 _⟩
    · have hke : (bts r).take j = bts r := List.take_of_length_le (by rw [bts_length]; omega)
      rw [hke] at hA hall
      have hM3 : charM (bts k) = chM (decV (bts r)) := by rw [hM.out, if_pos hall.out]
      obtain ⟨V, hVe⟩ : ∃ V, decV (bts r) = V := ⟨_, rfl⟩
      have ha := hA.out
      rw [hVe] at hM3 ha
      clear hA hall hke hVe hM
      cases hva : Ch.valid a with
      | false =>
        have hF : Hid (charM (bts k) = none) := Lib.hid (by
          rw [hM3, chM, if_neg]
          rintro ⟨h1, h2⟩
          have : a = (V : Int) := by rw [ha, Nat.min_def]; split <;> omega
          rw [this, h2] at hva; cases hva)
        have HVA : Hid _ := Lib.hid hva
        clear hM3 hva ha
        go_wp2_with (go_at_call 9; refine (f9_any _ _).mono ?_; rintro e w4 ⟨rfl, rfl⟩; rw [HVA.out])
        go_ret2
        go_light
        exact ⟨EscSaid.no hF.out, below_drewN hB0 _⟩
      | true =>
        have hle := (Ch.valid_le hva).2
        have hav : a = (V : Int) := by rw [Nat.min_def] at ha; split at ha <;> omega
        have hF : Hid (charM (bts k) = some V) := Lib.hid (by rw [hM3, chM, if_pos ⟨by omega, by rw [← hav]; exact hva⟩])
        have HVA : Hid _ := Lib.hid hva
        have HAV : Hid _ := Lib.hid hav
        clear hM3 hva ha hav
        go_wp2_with (go_at_call 9; refine (f9_any _ _).mono ?_; rintro e w4 ⟨rfl, rfl⟩; rw [HVA.out])
        go_ret2
        go_light
        exact ⟨EscSaid.yes hF.out HAV.out, below_drewN hB0 _⟩

theorem f40_any (k : ByteArray) (hk : k.size ≤ 1000000) (w : World) : Calls Tryd.prog 40 #[.string k] w fun e w' => EscSaid k e ∧ Below w.heap.size w w' := by
  have q1 := word_beq k [108, 116]
  have q2 := word_beq k [103, 116]
  have q3 := word_beq k [97, 109, 112]
  have q4 := word_beq k [113, 117, 111, 116]
  have q5 := word_beq k [97, 112, 111, 115]
  simp only [List.map_cons, List.map_nil, show (108 : UInt8).toNat = 108 from rfl, show (116 : UInt8).toNat = 116 from rfl, show (103 : UInt8).toNat = 103 from rfl, show (97 : UInt8).toNat = 97 from rfl, show (109 : UInt8).toNat = 109 from rfl, show (112 : UInt8).toNat = 112 from rfl, show (113 : UInt8).toNat = 113 from rfl, show (117 : UInt8).toNat = 117 from rfl, show (111 : UInt8).toNat = 111 from rfl, show (115 : UInt8).toNat = 115 from rfl] at q1 q2 q3 q4 q5
  by_cases h1 : bts k = [108, 116]
  · rw [decide_eq_true h1] at q1
    refine (f40_n1 k w q1).mono ?_
    rintro e w' ⟨rfl, hb⟩
    exact ⟨EscSaid.yes (c := 60) (by rw [h1]; rfl) rfl, hb⟩
  rw [decide_eq_false h1] at q1
  by_cases h2 : bts k = [103, 116]
  · rw [decide_eq_true h2] at q2
    refine (f40_n2 k w q1 q2).mono ?_
    rintro e w' ⟨rfl, hb⟩
    exact ⟨EscSaid.yes (c := 62) (by rw [h2]; rfl) rfl, hb⟩
  rw [decide_eq_false h2] at q2
  by_cases h3 : bts k = [97, 109, 112]
  · rw [decide_eq_true h3] at q3
    refine (f40_n3 k w q1 q2 q3).mono ?_
    rintro e w' ⟨rfl, hb⟩
    exact ⟨EscSaid.yes (c := 38) (by rw [h3]; rfl) rfl, hb⟩
  rw [decide_eq_false h3] at q3
  by_cases h4 : bts k = [113, 117, 111, 116]
  · rw [decide_eq_true h4] at q4
    refine (f40_n4 k w q1 q2 q3 q4).mono ?_
    rintro e w' ⟨rfl, hb⟩
    exact ⟨EscSaid.yes (c := 34) (by rw [h4]; rfl) rfl, hb⟩
  rw [decide_eq_false h4] at q4
  by_cases h5 : bts k = [97, 112, 111, 115]
  · rw [decide_eq_true h5] at q5
    refine (f40_n5 k w q1 q2 q3 q4 q5).mono ?_
    rintro e w' ⟨rfl, hb⟩
    exact ⟨EscSaid.yes (c := 39) (by rw [h5]; rfl) rfl, hb⟩
  rw [decide_eq_false h5] at q5
  have hn : nameM (bts k) = none := by unfold nameM; rw [if_neg h1, if_neg h2, if_neg h3, if_neg h4, if_neg h5]
  have hM : charM (bts k) = if (bts k).head? = some 35 then (if (bts k).tail.head? = some 120 then digM true (bts k).tail.tail else digM false (bts k).tail) else none := by
    rw [charM_eq, hn]
  clear h1 h2 h3 h4 h5 hn
  have hl := bts_length k
  have hno : ∀ {e : Ending} {w' : World}, charM (bts k) = none → (e = .returned (.tuple #[.int .i32 0, .bool false]) ∧ Below w.heap.size w w') → EscSaid k e ∧ Below w.heap.size w w' := by
    rintro e w' h ⟨rfl, hb⟩
    exact ⟨EscSaid.no h, hb⟩
  by_cases hs0 : k.size = 0
  · have hnil : bts k = [] := List.length_eq_zero_iff.1 (by omega)
    exact (f40_empty k w q1 q2 q3 q4 q5 (isEmpty_yes hs0)).mono fun e w' h => hno (by rw [hM, hnil]; rfl) h
  have hpos : 0 < k.size := Nat.pos_of_ne_zero hs0
  obtain ⟨b, hb⟩ : ∃ b, (bts k).head? = some b := by
    cases hbk : bts k with
    | nil => rw [hbk] at hl; simp at hl; omega
    | cons x _ => exact ⟨x, rfl⟩
  obtain ⟨_, hc0⟩ := head_byte hb
  by_cases h35 : b = 35
  · subst h35
    rw [if_pos hb] at hM
    obtain ⟨r, hr⟩ : ∃ r, k.extract 1 k.size = r := ⟨_, rfl⟩
    have hbr : bts r = (bts k).tail := by rw [← hr]; exact bts_tail k
    rw [← hbr] at hM
    have hlr := bts_length r
    by_cases hr0 : r.size = 0
    · have hnil : bts r = [] := List.length_eq_zero_iff.1 (by omega)
      exact (f40_sharp k r w hk q1 q2 q3 q4 q5 hpos (isEmpty_no hpos) hc0 hr (isEmpty_yes hr0)).mono fun e w' h => hno (by rw [hM, hnil]; rfl) h
    have hposr : 0 < r.size := Nat.pos_of_ne_zero hr0
    obtain ⟨b, hb1⟩ : ∃ b, (bts r).head? = some b := by
      cases hbk : bts r with
      | nil => rw [hbk] at hlr; simp at hlr; omega
      | cons x _ => exact ⟨x, rfl⟩
    obtain ⟨_, hc1⟩ := head_byte hb1
    by_cases h120 : b = 120
    · subst h120
      rw [if_pos hb1] at hM
      obtain ⟨t, ht⟩ : ∃ t, r.extract 1 r.size = t := ⟨_, rfl⟩
      have hbt : bts t = (bts r).tail := by rw [← ht]; exact bts_tail r
      rw [← hbt] at hM
      have hlt := bts_length t
      by_cases ht0 : t.size = 0
      · exact (f40_x0 k r t w hk q1 q2 q3 q4 q5 hpos (isEmpty_no hpos) hc0 hr (isEmpty_no hposr) hposr hc1 ht (isEmpty_yes ht0)).mono fun e w' h => hno (by rw [hM, digM, if_pos (.inl (List.length_eq_zero_iff.1 (by omega)))]) h
      have het := isEmpty_no (Nat.pos_of_ne_zero ht0)
      by_cases h20 : 20 < t.size
      · exact (f40_x20 k r t w hk q1 q2 q3 q4 q5 hpos (isEmpty_no hpos) hc0 hr (isEmpty_no hposr) hposr hc1 ht het h20).mono fun e w' h => hno (by rw [hM, digM, if_pos (.inr (by omega))]) h
      exact f40_xn k r t w hk q1 q2 q3 q4 q5 hpos (isEmpty_no hpos) hc0 hr (isEmpty_no hposr) hposr hc1 ht het (by omega) (Lib.hid (by
        rw [hM, digM, if_neg (by rw [not_or]; exact ⟨fun h => ht0 (by rw [← hlt, h]; rfl), by omega⟩)]; rfl))
    · rw [if_neg (by rw [hb1]; simpa using h120)] at hM
      by_cases h20 : 20 < r.size
      · exact (f40_d20 k r w hk q1 q2 q3 q4 q5 hpos (isEmpty_no hpos) hc0 hr (isEmpty_no hposr) hposr b (neq_of h120) hc1 h20).mono fun e w' h => hno (by rw [hM, digM, if_pos (.inr (by omega))]) h
      exact f40_dn k r w hk q1 q2 q3 q4 q5 hpos (isEmpty_no hpos) hc0 hr (isEmpty_no hposr) hposr b (neq_of h120) hc1 (by omega) (Lib.hid (by
        rw [hM, digM, if_neg (by rw [not_or]; exact ⟨fun h => hr0 (by rw [← hlr, h]; rfl), by omega⟩)]; rfl))
  · rw [if_neg (by rw [hb]; simpa using h35)] at hM
    exact (f40_bare k w q1 q2 q3 q4 q5 hpos (isEmpty_no hpos) b (neq_of h35) hc0).mono fun e w' h => hno hM h
end Go.Proofs.YtllnfiidmpopkaaDoor
