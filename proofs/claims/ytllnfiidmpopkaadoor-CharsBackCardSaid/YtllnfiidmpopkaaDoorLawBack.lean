/-
  What CharsBack returns: true, where the program's variables hold what its text lays. Condition: those variables.
-/
import Derived.Test.YtllnfiidmpopkaaDoorLawTexts
namespace Go.Proofs.YtllnfiidmpopkaaDoor
open Go Go.RowKit

theorem bts_one {s : ByteArray} : bts (str ((bts s).map sqB)) = (bts s).map sqB := bts_str _ (fun b hb => by
  obtain ⟨c, hc, rfl⟩ := List.mem_map.1 hb
  exact sqB_lt (bts_lt s c hc))
theorem sqTwo_lt (s : ByteArray) : ∀ b ∈ sqTwo (bts s), b < 256 := by
  intro b hb
  unfold sqTwo at hb
  have h := sqRow_lt (bts s) (bts_lt s)
  split at hb
  · exact h b ((List.dropLast_sublist _).subset hb)
  · exact h b hb
theorem bts_two {s : ByteArray} : bts (str (sqTwo (bts s))) = sqTwo (bts s) := bts_str _ (sqTwo_lt s)

set_option maxRecDepth 100000 in
set_option maxHeartbeats 4000000 in
theorem f29_any (s : ByteArray) (hs : s.size ≤ 5000) (w : World) (hG : Good w) : Calls Tryd.prog 29 #[.string s] w fun e w' => e = .returned (.bool true) ∧ Below w.heap.size w w' := by
  have HG : Hid _ := Lib.hid hG
  clear hG
  have hs1 : s.size ≤ 150000 := by omega
  have tok1 : True := trivial
  rcases wrongI_cases s with hw | hw
  · obtain ⟨one, hone⟩ : ∃ one, one = str ((bts s).map sqB) := ⟨_, rfl⟩
    obtain ⟨two, htwo⟩ : ∃ two, two = str (sqTwo (bts s)) := ⟨_, rfl⟩
    have b1 : bts one = (bts s).map sqB := by rw [hone]; exact bts_one
    have b2 : bts two = sqTwo (bts s) := by rw [htwo]; exact bts_two
    have T := (text_iff s).1 hw
    have w1 : wrongI one = -1 := text_is (by rw [b1]; exact isText_sqB T)
    have w2 : wrongI two = -1 := text_is (by rw [b2]; exact isText_two T)
    have n1 : one.size = s.size := by rw [← bts_length, b1, List.length_map, bts_length]
    have n2 : two.size ≤ 150000 := by rw [← bts_length, b2]; exact Nat.le_trans (sqTwo_length s) hs1
    have n1' : one.size ≤ 150000 := by omega
    have HN : Hid _ := Lib.hid n1
    have S1 : Hid (SqIs s 1 one 0) := Lib.hid (.inr (.inr ⟨hw, .inr (.inl ⟨rfl, hone⟩), rfl⟩))
    have S2 : Hid (SqIs s 2 two 0) := Lib.hid (.inr (.inr ⟨hw, .inr (.inr ⟨rfl, htwo⟩), rfl⟩))
    have S3 : Hid (SqIs one 1 one 0) := Lib.hid (.inr (.inr ⟨w1, .inr (.inl ⟨rfl, by
      rw [b1, List.map_map]
      have : (sqB ∘ sqB) = sqB := by funext b; exact sqB_sqB b
      rw [this]; exact hone⟩), rfl⟩))
    have S4 : Hid (SqIs two 2 two 0) := Lib.hid (.inr (.inr ⟨w2, .inr (.inr ⟨rfl, by rw [b2, sqTwo_again]; exact htwo⟩), rfl⟩))
    have S5 : Hid (SqIs one 2 two 0) := Lib.hid (.inr (.inr ⟨w1, .inr (.inr ⟨rfl, by rw [b1, sqTwo_map]; exact htwo⟩), rfl⟩))
    clear hone htwo b1 b2 T w1 w2 n1 hw
    have d0 : ((one.size : Int) == (s.size : Int)) = true := by rw [HN.out]; simp
    have tok2 : True := trivial
    have tok3 : True := trivial
    have tok4 : True := trivial
    go_enter Tryd.func29, Tryd.ntmps29
    go_wp2_with (first
      | (go_at_call 22; have _t := tok1; refine (f22_is s 1 hs1 _ HG.out S1.out).mono ?_; rintro e w1 ⟨rfl, b1⟩; have G1 : Hid _ := Lib.hid (HG.out.next b1); clear tok1 _t)
      | (go_at_call 22; have _t := tok2; refine (f22_is s 2 hs1 _ G1.out S2.out).mono ?_; rintro e w2 ⟨rfl, b2⟩; have G2 : Hid _ := Lib.hid (G1.out.next b2); clear tok2 _t)
      | (go_at_call 22; have _t := tok3; refine (f22_is one 1 n1' _ G2.out S3.out).mono ?_; rintro e w3 ⟨rfl, b3⟩; have G3 : Hid _ := Lib.hid (G2.out.next b3); clear tok3 _t)
      | (go_at_call 22; have _t := tok4; refine (f22_is two 2 n2 _ G3.out S4.out).mono ?_; rintro e w4 ⟨rfl, b4⟩; have G4 : Hid _ := Lib.hid (G3.out.next b4); clear tok4 _t)
      | (go_at_call 22; refine (f22_is one 2 n1' _ G4.out S5.out).mono ?_; rintro e w5 ⟨rfl, b5⟩))
    go_ret
    go_light
    exact ⟨rfl, below2 (below2 (below2 (below2 b1 b2) b3) b4) b5⟩
  · have S1 : Hid (SqIs s 1 ⟨#[]⟩ 6) := Lib.hid (.inr (.inl ⟨by omega, hw, rfl, rfl⟩))
    have S2 : Hid (SqIs s 2 ⟨#[]⟩ 6) := Lib.hid (.inr (.inl ⟨by omega, hw, rfl, rfl⟩))
    clear hw
    go_enter Tryd.func29, Tryd.ntmps29
    go_wp2_with (first
      | (go_at_call 22; have _t := tok1; refine (f22_is s 1 hs1 _ HG.out S1.out).mono ?_; rintro e w1 ⟨rfl, b1⟩; have G1 : Hid _ := Lib.hid (HG.out.next b1); clear tok1 _t)
      | (go_at_call 22; refine (f22_is s 2 hs1 _ G1.out S2.out).mono ?_; rintro e w2 ⟨rfl, b2⟩))
    go_ret
    go_light
    exact ⟨rfl, below2 b1 b2⟩
/- THE FOUR ways. -/
set_option maxRecDepth 100000 in
set_option maxHeartbeats 4000000 in
theorem f6_tt (s : ByteArray) (va : Option Addr) (vcap : Nat) (zs : List Int) (hs : s.size ≤ 5000) (w : World) (hG : Good w) (hr : A32 w (.slice va zs.length vcap) zs) (hz : zs.length ≤ 5000) (hw : wrongI s = -1) (hv : zs.all Ch.valid = true) : Calls Tryd.prog 6 #[.string s, .slice va zs.length vcap] w fun e w' => e = .returned (.bool true) ∧ Below w.heap.size w w' := by
  have HG : Hid _ := Lib.hid hG
  have HR : Hid _ := Lib.hid hr
  clear hG hr
  have d1 : decide (5000 < (s.size : Int)) = false := decide_eq_false (by omega)
  have d2 : decide (5000 < (zs.length : Int)) = false := decide_eq_false (by omega)
  have hs1 : s.size ≤ 1000000 := by omega
  have hs2 : s.size ≤ 150000 := by omega
  have hz1 : zs.length ≤ 200000 := by omega
  obtain ⟨ys, hys⟩ : ∃ ys, ys = seconds (items s) := ⟨_, rfl⟩
  have hyl : ys.length ≤ 200000 := by rw [hys, seconds_length]; exact Nat.le_trans (items_length _ _ _) (by omega)
  have HD : Hid (DecIs s ys 0 0) := Lib.hid (.inl ⟨hw, hys, rfl, rfl⟩)
  have bt := back_text hw
  have HE : Hid (EncIs ys s 0) := Lib.hid (.inl ⟨by rw [hys]; exact bt.1, by rw [hys]; exact bt.2.symm, rfl⟩)
  obtain ⟨x0, hx0⟩ : ∃ x, x = str (escAll (bts s) false) := ⟨_, rfl⟩
  obtain ⟨x1, hx1⟩ : ∃ x, x = str (escAll (bts s) true) := ⟨_, rfl⟩
  have hxl0 : x0.size ≤ 150000 := by rw [hx0, str_size]; have := escAll_length (bts s) false; rw [bts_length] at this; omega
  have hxl1 : x1.size ≤ 150000 := by rw [hx1, str_size]; have := escAll_length (bts s) true; rw [bts_length] at this; omega
  have HX0 : Hid (EscIs s false x0 0) := Lib.hid (.inl ⟨hw, hx0, rfl⟩)
  have HX1 : Hid (EscIs s true x1 0) := Lib.hid (.inl ⟨hw, hx1, rfl⟩)
  have HU0 : Hid (UnIs x0 s 0 0) := Lib.hid (by rw [hx0]; exact (back_escape false hw).2)
  have HU1 : Hid (UnIs x1 s 0 0) := Lib.hid (by rw [hx1]; exact (back_escape true hw).2)
  obtain ⟨t, ht⟩ : ∃ t, t = str (encAll zs) := ⟨_, rfl⟩
  have htl : t.size ≤ 1000000 := by rw [ht, str_size]; have := encAll_length zs; omega
  have bc := back_chars hv
  have HT : Hid (EncIs zs t 0) := Lib.hid (.inl ⟨hv, ht, rfl⟩)
  have HB : Hid (DecIs t zs 0 0) := Lib.hid (.inl ⟨by rw [ht]; exact bc.1, by rw [ht]; exact bc.2.symm, rfl, rfl⟩)
  clear hw hv hys bt hx0 hx1 ht bc
  have tok1 : True := trivial
  have tok2 : True := trivial
  go_enter Tryd.func6, Tryd.ntmps6
  go_wp2_with (first
    | (go_at_call 24; have _t := tok1; refine (f24_is s hs1 _ HG.out HD.out).mono ?_; rintro e w1 ⟨⟨v1, rfl, hr1⟩, b1⟩; have B1 := b1; have G1 : Hid _ := Lib.hid (HG.out.next B1); have R1 : Hid _ := Lib.hid hr1; clear hr1; clear tok1 _t)
    | (go_at_call 26; have _t := tok2; refine (f26_is v1 ys hyl _ G1.out (.inr R1.out) HE.out).mono ?_; rintro e w2 ⟨rfl, b2⟩; have B2 := (below2 B1 b2); have G2 : Hid _ := Lib.hid (HG.out.next B2); clear tok2 _t)
    | (go_at_call 26; refine (f26_is _ zs hz1 _ G2.out (HR.out.below B2) HT.out).mono ?_; rintro e w3 ⟨rfl, b3⟩; have B3 := (below2 B2 b3); have G3 : Hid _ := Lib.hid (HG.out.next B3))
    | (go_at_call 24; refine (f24_is t htl _ G3.out HB.out).mono ?_; rintro e w4 ⟨⟨v2, rfl, hr2⟩, b4⟩; have B4 := (below2 B3 b4); have G4 : Hid _ := Lib.hid (HG.out.next B4); have R2 : Hid _ := Lib.hid hr2; clear hr2)
    | (go_at_call 28; refine (f28_arg v2 _ zs (by omega) _ R2.out (HR.out.below B4)).mono ?_; rintro e w5 ⟨rfl, b5⟩; have B5 := (below2 B4 b5); have G5 : Hid _ := Lib.hid (HG.out.next B5)))
  refine wp_loop_rounds 3 ?_
  rw [rounds_succ]
  go_wp2_with (first
    | (go_at_call 18; refine (f18_is s false hs2 _ G5.out HX0.out).mono ?_; rintro e w6 ⟨rfl, b6⟩; have B6 := (below2 B5 b6); have G6 : Hid _ := Lib.hid (HG.out.next B6))
    | (go_at_call 20; refine (f20_is x0 hxl0 _ G6.out HU0.out).mono ?_; rintro e w7 ⟨rfl, b7⟩; have B7 := (below2 B6 b7); have G7 : Hid _ := Lib.hid (HG.out.next B7)))
  rw [rounds_succ]
  go_wp2_with (first
    | (go_at_call 18; refine (f18_is s true hs2 _ G7.out HX1.out).mono ?_; rintro e w8 ⟨rfl, b8⟩; have B8 := (below2 B7 b8); have G8 : Hid _ := Lib.hid (HG.out.next B8))
    | (go_at_call 20; refine (f20_is x1 hxl1 _ G8.out HU1.out).mono ?_; rintro e w9 ⟨rfl, b9⟩; have B9 := (below2 B8 b9); have G9 : Hid _ := Lib.hid (HG.out.next B9)))
  rw [rounds_succ]
  go_wp2_with (first
    | (go_at_call 29; refine (f29_any s hs _ G9.out).mono ?_; rintro e w10 ⟨rfl, b10⟩; have B10 := (below2 B9 b10); have G10 : Hid _ := Lib.hid (HG.out.next B10))
    | (go_at_call 7; refine (f7_any _ G10.out).mono ?_; rintro e w11 ⟨rfl, b11⟩; have B11 := (below2 B10 b11); have G11 : Hid _ := Lib.hid (HG.out.next B11)))
  go_ret
  go_light
  exact ⟨rfl, B11⟩
set_option maxRecDepth 100000 in
set_option maxHeartbeats 4000000 in
theorem f6_tf (s : ByteArray) (va : Option Addr) (vcap : Nat) (zs : List Int) (hs : s.size ≤ 5000) (w : World) (hG : Good w) (hr : A32 w (.slice va zs.length vcap) zs) (hz : zs.length ≤ 5000) (hw : wrongI s = -1) (hv : zs.all Ch.valid = false) : Calls Tryd.prog 6 #[.string s, .slice va zs.length vcap] w fun e w' => e = .returned (.bool true) ∧ Below w.heap.size w w' := by
  have HG : Hid _ := Lib.hid hG
  have HR : Hid _ := Lib.hid hr
  clear hG hr
  have d1 : decide (5000 < (s.size : Int)) = false := decide_eq_false (by omega)
  have d2 : decide (5000 < (zs.length : Int)) = false := decide_eq_false (by omega)
  have hs1 : s.size ≤ 1000000 := by omega
  have hs2 : s.size ≤ 150000 := by omega
  have hz1 : zs.length ≤ 200000 := by omega
  obtain ⟨ys, hys⟩ : ∃ ys, ys = seconds (items s) := ⟨_, rfl⟩
  have hyl : ys.length ≤ 200000 := by rw [hys, seconds_length]; exact Nat.le_trans (items_length _ _ _) (by omega)
  have HD : Hid (DecIs s ys 0 0) := Lib.hid (.inl ⟨hw, hys, rfl, rfl⟩)
  have bt := back_text hw
  have HE : Hid (EncIs ys s 0) := Lib.hid (.inl ⟨by rw [hys]; exact bt.1, by rw [hys]; exact bt.2.symm, rfl⟩)
  obtain ⟨x0, hx0⟩ : ∃ x, x = str (escAll (bts s) false) := ⟨_, rfl⟩
  obtain ⟨x1, hx1⟩ : ∃ x, x = str (escAll (bts s) true) := ⟨_, rfl⟩
  have hxl0 : x0.size ≤ 150000 := by rw [hx0, str_size]; have := escAll_length (bts s) false; rw [bts_length] at this; omega
  have hxl1 : x1.size ≤ 150000 := by rw [hx1, str_size]; have := escAll_length (bts s) true; rw [bts_length] at this; omega
  have HX0 : Hid (EscIs s false x0 0) := Lib.hid (.inl ⟨hw, hx0, rfl⟩)
  have HX1 : Hid (EscIs s true x1 0) := Lib.hid (.inl ⟨hw, hx1, rfl⟩)
  have HU0 : Hid (UnIs x0 s 0 0) := Lib.hid (by rw [hx0]; exact (back_escape false hw).2)
  have HU1 : Hid (UnIs x1 s 0 0) := Lib.hid (by rw [hx1]; exact (back_escape true hw).2)
  have HT : Hid (EncIs zs ⟨#[]⟩ 2) := Lib.hid (.inr ⟨hv, rfl, rfl⟩)
  clear hw hv hys bt hx0 hx1
  have tok1 : True := trivial
  have tok2 : True := trivial
  go_enter Tryd.func6, Tryd.ntmps6
  go_wp2_with (first
    | (go_at_call 24; have _t := tok1; refine (f24_is s hs1 _ HG.out HD.out).mono ?_; rintro e w1 ⟨⟨v1, rfl, hr1⟩, b1⟩; have B1 := b1; have G1 : Hid _ := Lib.hid (HG.out.next B1); have R1 : Hid _ := Lib.hid hr1; clear hr1; clear tok1 _t)
    | (go_at_call 26; have _t := tok2; refine (f26_is v1 ys hyl _ G1.out (.inr R1.out) HE.out).mono ?_; rintro e w2 ⟨rfl, b2⟩; have B2 := (below2 B1 b2); have G2 : Hid _ := Lib.hid (HG.out.next B2); clear tok2 _t)
    | (go_at_call 26; refine (f26_is _ zs hz1 _ G2.out (HR.out.below B2) HT.out).mono ?_; rintro e w3 ⟨rfl, b3⟩; have B3 := (below2 B2 b3); have G3 : Hid _ := Lib.hid (HG.out.next B3)))
  refine wp_loop_rounds 3 ?_
  rw [rounds_succ]
  go_wp2_with (first
    | (go_at_call 18; refine (f18_is s false hs2 _ G3.out HX0.out).mono ?_; rintro e w4 ⟨rfl, b4⟩; have B4 := (below2 B3 b4); have G4 : Hid _ := Lib.hid (HG.out.next B4))
    | (go_at_call 20; refine (f20_is x0 hxl0 _ G4.out HU0.out).mono ?_; rintro e w5 ⟨rfl, b5⟩; have B5 := (below2 B4 b5); have G5 : Hid _ := Lib.hid (HG.out.next B5)))
  rw [rounds_succ]
  go_wp2_with (first
    | (go_at_call 18; refine (f18_is s true hs2 _ G5.out HX1.out).mono ?_; rintro e w6 ⟨rfl, b6⟩; have B6 := (below2 B5 b6); have G6 : Hid _ := Lib.hid (HG.out.next B6))
    | (go_at_call 20; refine (f20_is x1 hxl1 _ G6.out HU1.out).mono ?_; rintro e w7 ⟨rfl, b7⟩; have B7 := (below2 B6 b7); have G7 : Hid _ := Lib.hid (HG.out.next B7)))
  rw [rounds_succ]
  go_wp2_with (first
    | (go_at_call 29; refine (f29_any s hs _ G7.out).mono ?_; rintro e w8 ⟨rfl, b8⟩; have B8 := (below2 B7 b8); have G8 : Hid _ := Lib.hid (HG.out.next B8))
    | (go_at_call 7; refine (f7_any _ G8.out).mono ?_; rintro e w9 ⟨rfl, b9⟩; have B9 := (below2 B8 b9); have G9 : Hid _ := Lib.hid (HG.out.next B9)))
  go_ret
  go_light
  exact ⟨rfl, B9⟩
set_option maxRecDepth 100000 in
set_option maxHeartbeats 4000000 in
theorem f6_ft (s : ByteArray) (va : Option Addr) (vcap : Nat) (zs : List Int) (hs : s.size ≤ 5000) (w : World) (hG : Good w) (hr : A32 w (.slice va zs.length vcap) zs) (hz : zs.length ≤ 5000) (hw : 0 ≤ wrongI s) (hv : zs.all Ch.valid = true) : Calls Tryd.prog 6 #[.string s, .slice va zs.length vcap] w fun e w' => e = .returned (.bool true) ∧ Below w.heap.size w w' := by
  have HG : Hid _ := Lib.hid hG
  have HR : Hid _ := Lib.hid hr
  clear hG hr
  have d1 : decide (5000 < (s.size : Int)) = false := decide_eq_false (by omega)
  have d2 : decide (5000 < (zs.length : Int)) = false := decide_eq_false (by omega)
  have hs1 : s.size ≤ 1000000 := by omega
  have hs2 : s.size ≤ 150000 := by omega
  have hz1 : zs.length ≤ 200000 := by omega
  have HD : Hid (DecIs s [] (wrongI s) 6) := Lib.hid (.inr ⟨hw, rfl, rfl, rfl⟩)
  have HX0 : Hid (EscIs s false ⟨#[]⟩ 6) := Lib.hid (.inr ⟨hw, rfl, rfl⟩)
  have HX1 : Hid (EscIs s true ⟨#[]⟩ 6) := Lib.hid (.inr ⟨hw, rfl, rfl⟩)
  obtain ⟨t, ht⟩ : ∃ t, t = str (encAll zs) := ⟨_, rfl⟩
  have htl : t.size ≤ 1000000 := by rw [ht, str_size]; have := encAll_length zs; omega
  have bc := back_chars hv
  have HT : Hid (EncIs zs t 0) := Lib.hid (.inl ⟨hv, ht, rfl⟩)
  have HB : Hid (DecIs t zs 0 0) := Lib.hid (.inl ⟨by rw [ht]; exact bc.1, by rw [ht]; exact bc.2.symm, rfl, rfl⟩)
  clear hw hv ht bc
  have tok1 : True := trivial
  go_enter Tryd.func6, Tryd.ntmps6
  go_wp2_with (first
    | (go_at_call 24; have _t := tok1; refine (f24_is s hs1 _ HG.out HD.out).mono ?_; rintro e w1 ⟨⟨v1, rfl, hr1⟩, b1⟩; have B1 := b1; have G1 : Hid _ := Lib.hid (HG.out.next B1); have R1 : Hid _ := Lib.hid hr1; clear hr1; clear tok1 _t)
    | (go_at_call 26; refine (f26_is _ zs hz1 _ G1.out (HR.out.below B1) HT.out).mono ?_; rintro e w2 ⟨rfl, b2⟩; have B2 := (below2 B1 b2); have G2 : Hid _ := Lib.hid (HG.out.next B2))
    | (go_at_call 24; refine (f24_is t htl _ G2.out HB.out).mono ?_; rintro e w3 ⟨⟨v2, rfl, hr2⟩, b3⟩; have B3 := (below2 B2 b3); have G3 : Hid _ := Lib.hid (HG.out.next B3); have R2 : Hid _ := Lib.hid hr2; clear hr2)
    | (go_at_call 28; refine (f28_arg v2 _ zs (by omega) _ R2.out (HR.out.below B3)).mono ?_; rintro e w4 ⟨rfl, b4⟩; have B4 := (below2 B3 b4); have G4 : Hid _ := Lib.hid (HG.out.next B4)))
  refine wp_loop_rounds 3 ?_
  rw [rounds_succ]
  go_wp2_with (go_at_call 18; refine (f18_is s false hs2 _ G4.out HX0.out).mono ?_; rintro e w5 ⟨rfl, b5⟩; have B5 := (below2 B4 b5); have G5 : Hid _ := Lib.hid (HG.out.next B5))
  rw [rounds_succ]
  go_wp2_with (go_at_call 18; refine (f18_is s true hs2 _ G5.out HX1.out).mono ?_; rintro e w6 ⟨rfl, b6⟩; have B6 := (below2 B5 b6); have G6 : Hid _ := Lib.hid (HG.out.next B6))
  rw [rounds_succ]
  go_wp2_with (first
    | (go_at_call 29; refine (f29_any s hs _ G6.out).mono ?_; rintro e w7 ⟨rfl, b7⟩; have B7 := (below2 B6 b7); have G7 : Hid _ := Lib.hid (HG.out.next B7))
    | (go_at_call 7; refine (f7_any _ G7.out).mono ?_; rintro e w8 ⟨rfl, b8⟩; have B8 := (below2 B7 b8); have G8 : Hid _ := Lib.hid (HG.out.next B8)))
  go_ret
  go_light
  exact ⟨rfl, B8⟩
set_option maxRecDepth 100000 in
set_option maxHeartbeats 4000000 in
theorem f6_ff (s : ByteArray) (va : Option Addr) (vcap : Nat) (zs : List Int) (hs : s.size ≤ 5000) (w : World) (hG : Good w) (hr : A32 w (.slice va zs.length vcap) zs) (hz : zs.length ≤ 5000) (hw : 0 ≤ wrongI s) (hv : zs.all Ch.valid = false) : Calls Tryd.prog 6 #[.string s, .slice va zs.length vcap] w fun e w' => e = .returned (.bool true) ∧ Below w.heap.size w w' := by
  have HG : Hid _ := Lib.hid hG
  have HR : Hid _ := Lib.hid hr
  clear hG hr
  have d1 : decide (5000 < (s.size : Int)) = false := decide_eq_false (by omega)
  have d2 : decide (5000 < (zs.length : Int)) = false := decide_eq_false (by omega)
  have hs1 : s.size ≤ 1000000 := by omega
  have hs2 : s.size ≤ 150000 := by omega
  have hz1 : zs.length ≤ 200000 := by omega
  have HD : Hid (DecIs s [] (wrongI s) 6) := Lib.hid (.inr ⟨hw, rfl, rfl, rfl⟩)
  have HX0 : Hid (EscIs s false ⟨#[]⟩ 6) := Lib.hid (.inr ⟨hw, rfl, rfl⟩)
  have HX1 : Hid (EscIs s true ⟨#[]⟩ 6) := Lib.hid (.inr ⟨hw, rfl, rfl⟩)
  have HT : Hid (EncIs zs ⟨#[]⟩ 2) := Lib.hid (.inr ⟨hv, rfl, rfl⟩)
  clear hw hv 
  have tok1 : True := trivial
  go_enter Tryd.func6, Tryd.ntmps6
  go_wp2_with (first
    | (go_at_call 24; have _t := tok1; refine (f24_is s hs1 _ HG.out HD.out).mono ?_; rintro e w1 ⟨⟨v1, rfl, hr1⟩, b1⟩; have B1 := b1; have G1 : Hid _ := Lib.hid (HG.out.next B1); have R1 : Hid _ := Lib.hid hr1; clear hr1; clear tok1 _t)
    | (go_at_call 26; refine (f26_is _ zs hz1 _ G1.out (HR.out.below B1) HT.out).mono ?_; rintro e w2 ⟨rfl, b2⟩; have B2 := (below2 B1 b2); have G2 : Hid _ := Lib.hid (HG.out.next B2)))
  refine wp_loop_rounds 3 ?_
  rw [rounds_succ]
  go_wp2_with (go_at_call 18; refine (f18_is s false hs2 _ G2.out HX0.out).mono ?_; rintro e w3 ⟨rfl, b3⟩; have B3 := (below2 B2 b3); have G3 : Hid _ := Lib.hid (HG.out.next B3))
  rw [rounds_succ]
  go_wp2_with (go_at_call 18; refine (f18_is s true hs2 _ G3.out HX1.out).mono ?_; rintro e w4 ⟨rfl, b4⟩; have B4 := (below2 B3 b4); have G4 : Hid _ := Lib.hid (HG.out.next B4))
  rw [rounds_succ]
  go_wp2_with (first
    | (go_at_call 29; refine (f29_any s hs _ G4.out).mono ?_; rintro e w5 ⟨rfl, b5⟩; have B5 := (below2 B4 b5); have G5 : Hid _ := Lib.hid (HG.out.next B5))
    | (go_at_call 7; refine (f7_any _ G5.out).mono ?_; rintro e w6 ⟨rfl, b6⟩; have B6 := (below2 B5 b6); have G6 : Hid _ := Lib.hid (HG.out.next B6)))
  go_ret
  go_light
  exact ⟨rfl, B6⟩
set_option maxRecDepth 100000 in
set_option maxHeartbeats 1000000 in
theorem f6_long1 (s : ByteArray) (va : Option Addr) (vcap n : Nat) (h1 : 5000 < s.size) (hs : s.size ≤ maxLen) (w : World) (hG : Good w) : Calls Tryd.prog 6 #[.string s, .slice va n vcap] w fun e w' => e = .returned (.bool true) ∧ Below w.heap.size w w' := by
  unfold maxLen at hs
  have HG : Hid _ := Lib.hid hG
  clear hG
  have d1 : decide (5000 < (s.size : Int)) = true := decide_eq_true (by omega)
  clear h1
  go_enter Tryd.func6, Tryd.ntmps6
  go_wp2_with (go_at_call 7; refine (f7_any _ HG.out).mono ?_; rintro e w1 ⟨rfl, hb1⟩)
  go_ret
  go_light
  exact ⟨rfl, hb1⟩
set_option maxRecDepth 100000 in
set_option maxHeartbeats 1000000 in
theorem f6_long2 (s : ByteArray) (va : Option Addr) (vcap n : Nat) (h1 : s.size ≤ 5000) (h2 : 5000 < n) (hz : n ≤ maxLen) (w : World) (hG : Good w) : Calls Tryd.prog 6 #[.string s, .slice va n vcap] w fun e w' => e = .returned (.bool true) ∧ Below w.heap.size w w' := by
  unfold maxLen at hz
  have HG : Hid _ := Lib.hid hG
  clear hG
  have d1 : decide (5000 < (s.size : Int)) = false := decide_eq_false (by omega)
  have d2 : decide (5000 < (n : Int)) = true := decide_eq_true (by omega)
  clear h1 h2
  go_enter Tryd.func6, Tryd.ntmps6
  go_wp2_with (go_at_call 7; refine (f7_any _ HG.out).mono ?_; rintro e w1 ⟨rfl, hb1⟩)
  go_ret
  go_light
  exact ⟨rfl, hb1⟩
theorem f6_any (s : ByteArray) (v : Value) (zs : List Int) (hs : s.size ≤ maxLen) (w : World) (hG : Good w) (hr : A32 w v zs) (hz : zs.length ≤ maxLen) : Calls Tryd.prog 6 #[.string s, v] w fun e w' => e = .returned (.bool true) ∧ Below w.heap.size w w' := by
  obtain ⟨va, vcap, rfl⟩ := a32_len hr
  by_cases h1 : 5000 < s.size
  · exact f6_long1 s va vcap zs.length h1 hs w hG
  · by_cases h2 : 5000 < zs.length
    · exact f6_long2 s va vcap zs.length (by omega) h2 hz w hG
    · rcases wrongI_cases s with hw | hw
      · cases hv : zs.all Ch.valid with
        | true => exact f6_tt s va vcap zs (by omega) w hG hr (by omega) hw hv
        | false => exact f6_tf s va vcap zs (by omega) w hG hr (by omega) hw hv
      · cases hv : zs.all Ch.valid with
        | true => exact f6_ft s va vcap zs (by omega) w hG hr (by omega) hw hv
        | false => exact f6_ff s va vcap zs (by omega) w hG hr (by omega) hw hv
end Go.Proofs.YtllnfiidmpopkaaDoor
