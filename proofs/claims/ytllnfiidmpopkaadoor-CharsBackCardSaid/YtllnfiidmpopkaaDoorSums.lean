/-
  The contracts of Decode, Encode, Escape, Unescape and Squeeze, of the program and of the reference alike, in one form each. Conditions: the sizes, the program's variables.
-/
import Derived.Test.YtllnfiidmpopkaaDoorShown
import Derived.Test.YtllnfiidmpopkaaDoorBack
namespace Go.Proofs.YtllnfiidmpopkaaDoor
open Go Go.RowKit

/-- What Decode gives: the characters, the place, the error. -/
def DecIs (s : ByteArray) (zs : List Int) (p n : Int) : Prop := (wrongI s = -1 ∧ zs = seconds (items s) ∧ p = 0 ∧ n = 0) ∨ (0 ≤ wrongI s ∧ zs = [] ∧ p = wrongI s ∧ n = 6)
theorem dec_is (s : ByteArray) : ∃ zs p n, DecIs s zs p n := by
  rcases wrongI_cases s with h | h
  · exact ⟨_, _, _, .inl ⟨h, rfl, rfl, rfl⟩⟩
  · exact ⟨_, _, _, .inr ⟨h, rfl, rfl, rfl⟩⟩
theorem DecIs.len {s : ByteArray} {zs : List Int} {p n : Int} (h : DecIs s zs p n) : zs.length ≤ s.size + 1 := by
  rcases h with ⟨_, rfl, _, _⟩ | ⟨_, rfl, _, _⟩
  · rw [seconds_length]; exact items_length _ _ _
  · simp
theorem f24_is (s : ByteArray) (hs : s.size ≤ 1000000) (w : World) (hG : Good w) {zs : List Int} {p n : Int} (h : DecIs s zs p n) :
    Calls Tryd.prog 24 #[.string s] w fun e w' => (∃ v, e = .returned (.tuple #[v, .int .i64 p, .int .i64 n]) ∧ R32 w' v zs) ∧ Below w.heap.size w w' := by
  refine (f24_any s hs w hG.rng).mono ?_
  rintro e w' ⟨⟨v, hw, rfl, hown⟩ | ⟨hw, rfl⟩, hb⟩
  · rcases h with ⟨_, rfl, rfl, rfl⟩ | ⟨h, _⟩
    · exact ⟨⟨v, rfl, R32.own hown⟩, hb⟩
    · omega
  · rcases h with ⟨h, _⟩ | ⟨_, rfl, rfl, rfl⟩
    · omega
    · exact ⟨⟨_, rfl, .inl ⟨rfl, rfl⟩⟩, hb⟩
theorem f25_is (s : ByteArray) (hs : s.size ≤ 1000000) (w : World) {zs : List Int} {p n : Int} (h : DecIs s zs p n) :
    Calls Tryd.prog 25 #[.string s] w fun e w' => (∃ v, e = .returned (.tuple #[v, .int .i64 p, .int .i64 n]) ∧ R32 w' v zs) ∧ Below w.heap.size w w' := by
  refine (f25_any s hs w).mono ?_
  rintro e w' ⟨⟨v, hw, rfl, hown⟩ | ⟨hw, rfl⟩, hb⟩
  · rcases h with ⟨_, rfl, rfl, rfl⟩ | ⟨h, _⟩
    · exact ⟨⟨v, rfl, R32.own hown⟩, hb⟩
    · omega
  · rcases h with ⟨h, _⟩ | ⟨_, rfl, rfl, rfl⟩
    · omega
    · exact ⟨⟨_, rfl, .inl ⟨rfl, rfl⟩⟩, hb⟩
/-- What Encode gives: the text, the error. -/
def EncIs (zs : List Int) (bs : ByteArray) (n : Int) : Prop := (zs.all Ch.valid = true ∧ bs = str (encAll zs) ∧ n = 0) ∨ (zs.all Ch.valid = false ∧ bs = ⟨#[]⟩ ∧ n = 2)
theorem enc_is (zs : List Int) : ∃ bs n, EncIs zs bs n := by
  cases h : zs.all Ch.valid with
  | true => exact ⟨_, _, .inl ⟨h, rfl, rfl⟩⟩
  | false => exact ⟨_, _, .inr ⟨h, rfl, rfl⟩⟩
/-- A slice of characters that came in: of length 0, or in memory. -/
def A32 (w : World) (v : Value) (zs : List Int) : Prop := (∃ a c, v = .slice a 0 c ∧ zs = []) ∨ R32 w v zs
theorem A32.below {w w1 : World} {v : Value} {zs : List Int} (h : A32 w v zs) (hb : Below w.heap.size w w1) : A32 w1 v zs := h.imp id (·.below hb)
theorem a32_len {w : World} {v : Value} {zs : List Int} (h : A32 w v zs) : ∃ a cap, v = .slice a zs.length cap := by
  rcases h with ⟨a, c, rfl, rfl⟩ | h
  · exact ⟨_, _, rfl⟩
  · exact r32_len h
set_option maxRecDepth 100000 in
set_option maxHeartbeats 1000000 in
theorem f26_zero (a : Option Addr) (c : Nat) (w : World) : Calls Tryd.prog 26 #[.slice a 0 c] w fun e w' => e = .returned (.tuple #[.string (str []), .int .i64 0]) ∧ Below w.heap.size w w' := by
  have hcv : (convert 46 9 (.slice none 0 0)).run Tryd.prog w = .ok (.string (str [])) w := run_str_own (w := w) (B := 0) (l := []) (n := 0) ⟨rfl, .inl ⟨rfl, rfl⟩⟩
  go_enter Tryd.func26, Tryd.ntmps26
  go_wp2
  refine wp_loop_rounds 1 ?_
  rw [rounds_succ]
  go_wp2
  go_ret2
  go_light
  exact ⟨rfl, Below.refl _ _⟩
set_option maxRecDepth 100000 in
set_option maxHeartbeats 1000000 in
theorem f27_zero (a : Option Addr) (c : Nat) (w : World) : Calls Tryd.prog 27 #[.slice a 0 c] w fun e w' => e = .returned (.tuple #[.string (str []), .int .i64 0]) ∧ Below w.heap.size w w' := by
  have hcv : (convert 46 9 (.slice none 0 0)).run Tryd.prog w = .ok (.string (str [])) w := run_str_own (w := w) (B := 0) (l := []) (n := 0) ⟨rfl, .inl ⟨rfl, rfl⟩⟩
  go_enter Tryd.func27, Tryd.ntmps27
  go_wp2
  refine wp_loop_rounds 1 ?_
  rw [rounds_succ]
  go_wp2
  go_ret2
  go_light
  exact ⟨rfl, Below.refl _ _⟩
theorem f26_is (v : Value) (zs : List Int) (hz : zs.length ≤ 200000) (w : World) (hG : Good w) (hr : A32 w v zs) {bs : ByteArray} {n : Int} (h : EncIs zs bs n) :
    Calls Tryd.prog 26 #[v] w fun e w' => e = .returned (.tuple #[.string bs, .int .i64 n]) ∧ Below w.heap.size w w' := by
  rcases hr with ⟨a, c, rfl, rfl⟩ | ⟨rfl, rfl⟩ | hr
  · refine (f26_zero a c w).mono ?_
    rintro e w' ⟨rfl, hb⟩
    rcases h with ⟨_, rfl, rfl⟩ | ⟨h, _⟩
    · exact ⟨rfl, hb⟩
    · cases h
  · refine (f26_nil w).mono ?_
    rintro e w' ⟨rfl, hb⟩
    rcases h with ⟨_, rfl, rfl⟩ | ⟨h, _⟩
    · exact ⟨rfl, hb⟩
    · cases h
  · refine (f26_some v zs hz w hG.rng hr).mono ?_
    rintro e w' ⟨⟨h1, rfl⟩ | ⟨h1, rfl⟩, hb⟩
    · rcases h with ⟨_, rfl, rfl⟩ | ⟨h, _⟩
      · exact ⟨rfl, hb⟩
      · rw [h1] at h; cases h
    · rcases h with ⟨h, _⟩ | ⟨_, rfl, rfl⟩
      · rw [h1] at h; cases h
      · exact ⟨rfl, hb⟩
theorem f27_is (v : Value) (zs : List Int) (hz : zs.length ≤ 200000) (w : World) (hr : A32 w v zs) {bs : ByteArray} {n : Int} (h : EncIs zs bs n) :
    Calls Tryd.prog 27 #[v] w fun e w' => e = .returned (.tuple #[.string bs, .int .i64 n]) ∧ Below w.heap.size w w' := by
  rcases hr with ⟨a, c, rfl, rfl⟩ | ⟨rfl, rfl⟩ | hr
  · refine (f27_zero a c w).mono ?_
    rintro e w' ⟨rfl, hb⟩
    rcases h with ⟨_, rfl, rfl⟩ | ⟨h, _⟩
    · exact ⟨rfl, hb⟩
    · cases h
  · refine (f27_nil w).mono ?_
    rintro e w' ⟨rfl, hb⟩
    rcases h with ⟨_, rfl, rfl⟩ | ⟨h, _⟩
    · exact ⟨rfl, hb⟩
    · cases h
  · refine (f27_some v zs hz w hr).mono ?_
    rintro e w' ⟨⟨h1, rfl⟩ | ⟨h1, rfl⟩, hb⟩
    · rcases h with ⟨_, rfl, rfl⟩ | ⟨h, _⟩
      · exact ⟨rfl, hb⟩
      · rw [h1] at h; cases h
    · rcases h with ⟨h, _⟩ | ⟨_, rfl, rfl⟩
      · rw [h1] at h; cases h
      · exact ⟨rfl, hb⟩
/-- What Escape gives. -/
def EscIs (s : ByteArray) (a : Bool) (bs : ByteArray) (n : Int) : Prop := (wrongI s = -1 ∧ bs = str (escAll (bts s) a) ∧ n = 0) ∨ (0 ≤ wrongI s ∧ bs = ⟨#[]⟩ ∧ n = 6)
theorem esc_is (s : ByteArray) (a : Bool) : ∃ bs n, EscIs s a bs n := by
  rcases wrongI_cases s with h | h
  · exact ⟨_, _, .inl ⟨h, rfl, rfl⟩⟩
  · exact ⟨_, _, .inr ⟨h, rfl, rfl⟩⟩
theorem f18_is (s : ByteArray) (a : Bool) (hs : s.size ≤ 150000) (w : World) (hG : Good w) {bs : ByteArray} {n : Int} (h : EscIs s a bs n) :
    Calls Tryd.prog 18 #[.string s, .bool a] w fun e w' => e = .returned (.tuple #[.string bs, .int .i64 n]) ∧ Below w.heap.size w w' := by
  refine (f18_any s a hs w hG.rng).mono ?_
  rintro e w' ⟨⟨h1, rfl⟩ | ⟨h1, rfl⟩, hb⟩
  · rcases h with ⟨_, rfl, rfl⟩ | ⟨h, _⟩
    · exact ⟨rfl, hb⟩
    · omega
  · rcases h with ⟨h, _⟩ | ⟨_, rfl, rfl⟩
    · omega
    · exact ⟨rfl, hb⟩
theorem f19_is (s : ByteArray) (a : Bool) (hs : s.size ≤ 150000) (w : World) {bs : ByteArray} {n : Int} (h : EscIs s a bs n) :
    Calls Tryd.prog 19 #[.string s, .bool a] w fun e w' => e = .returned (.tuple #[.string bs, .int .i64 n]) ∧ Below w.heap.size w w' := by
  refine (f19_any s a hs w).mono ?_
  rintro e w' ⟨⟨h1, rfl⟩ | ⟨h1, rfl⟩, hb⟩
  · rcases h with ⟨_, rfl, rfl⟩ | ⟨h, _⟩
    · exact ⟨rfl, hb⟩
    · omega
  · rcases h with ⟨h, _⟩ | ⟨_, rfl, rfl⟩
    · omega
    · exact ⟨rfl, hb⟩
/-- What Unescape gives. -/
def UnIs (s bs : ByteArray) (p n : Int) : Prop := unEnd s = .returned (.tuple #[.string bs, .int .i64 p, .int .i64 n])
theorem un_is (s : ByteArray) : ∃ bs p n, UnIs s bs p n := by
  unfold UnIs unEnd
  split
  · exact ⟨_, _, _, rfl⟩
  · split
    · exact ⟨_, _, _, rfl⟩
    · exact ⟨_, _, _, rfl⟩
theorem f20_is (s : ByteArray) (hs : s.size ≤ 150000) (w : World) (hG : Good w) {bs : ByteArray} {p n : Int} (h : UnIs s bs p n) :
    Calls Tryd.prog 20 #[.string s] w fun e w' => e = .returned (.tuple #[.string bs, .int .i64 p, .int .i64 n]) ∧ Below w.heap.size w w' :=
  (f20_any s hs w hG.rng hG.esc hG.err).mono fun _ _ ⟨he, hb⟩ => ⟨he.trans h, hb⟩
theorem f21_is (s : ByteArray) (hs : s.size ≤ 150000) (w : World) {bs : ByteArray} {p n : Int} (h : UnIs s bs p n) :
    Calls Tryd.prog 21 #[.string s] w fun e w' => e = .returned (.tuple #[.string bs, .int .i64 p, .int .i64 n]) ∧ Below w.heap.size w w' :=
  (f21_any s hs w).mono fun _ _ ⟨he, hb⟩ => ⟨he.trans h, hb⟩
/-- What Squeeze gives. -/
def SqIs (s : ByteArray) (m : Int) (bs : ByteArray) (n : Int) : Prop :=
  ((m < 0 ∨ 2 < m) ∧ bs = ⟨#[]⟩ ∧ n = 2) ∨ ((0 ≤ m ∧ m ≤ 2) ∧ 0 ≤ wrongI s ∧ bs = ⟨#[]⟩ ∧ n = 6) ∨ (wrongI s = -1 ∧ ((m = 0 ∧ bs = s) ∨ (m = 1 ∧ bs = str ((bts s).map sqB)) ∨ (m = 2 ∧ bs = str (sqTwo (bts s)))) ∧ n = 0)
theorem sq_is (s : ByteArray) (m : Int) : ∃ bs n, SqIs s m bs n := by
  by_cases h1 : m < 0 ∨ 2 < m
  · exact ⟨_, _, .inl ⟨h1, rfl, rfl⟩⟩
  · rcases wrongI_cases s with h | h
    · have : m = 0 ∨ m = 1 ∨ m = 2 := by omega
      rcases this with hm | hm | hm
      · exact ⟨_, _, .inr (.inr ⟨h, .inl ⟨hm, rfl⟩, rfl⟩)⟩
      · exact ⟨_, _, .inr (.inr ⟨h, .inr (.inl ⟨hm, rfl⟩), rfl⟩)⟩
      · exact ⟨_, _, .inr (.inr ⟨h, .inr (.inr ⟨hm, rfl⟩), rfl⟩)⟩
    · exact ⟨_, _, .inr (.inl ⟨by omega, h, rfl, rfl⟩)⟩
theorem f22_is (s : ByteArray) (m : Int) (hs : s.size ≤ 150000) (w : World) (hG : Good w) {bs : ByteArray} {n : Int} (h : SqIs s m bs n) :
    Calls Tryd.prog 22 #[.string s, .int .i64 m] w fun e w' => e = .returned (.tuple #[.string bs, .int .i64 n]) ∧ Below w.heap.size w w' := by
  rcases h with ⟨h1, rfl, rfl⟩ | ⟨h1, h2, rfl, rfl⟩ | ⟨h1, h2, rfl⟩
  · by_cases hm : m < 0
    · exact f22_low s m w (decide_eq_true hm)
    · exact f22_high s m w (decide_eq_false hm) (decide_eq_true (by omega))
  · exact f22_wrong s m hs w hG.rng h2 (decide_eq_false (by omega)) (decide_eq_false (by omega))
  · obtain ⟨k, hk⟩ := hG.mx
    rcases h2 with ⟨rfl, rfl⟩ | ⟨rfl, rfl⟩ | ⟨rfl, rfl⟩
    · exact f22_0 _ hs w hG.rng h1
    · exact f22_1 s hs w hG.rng h1
    · exact f22_2 s hs w hG.rng k hk h1
theorem f23_is (s : ByteArray) (m : Int) (hs : s.size ≤ 150000) (w : World) {bs : ByteArray} {n : Int} (h : SqIs s m bs n) :
    Calls Tryd.prog 23 #[.string s, .int .i64 m] w fun e w' => e = .returned (.tuple #[.string bs, .int .i64 n]) ∧ Below w.heap.size w w' := by
  rcases h with ⟨h1, rfl, rfl⟩ | ⟨h1, h2, rfl, rfl⟩ | ⟨h1, h2, rfl⟩
  · by_cases hm : m < 0
    · exact f23_low s m w (decide_eq_true hm)
    · exact f23_high s m w (decide_eq_false hm) (decide_eq_true (by omega))
  · exact f23_wrong s m hs w h2 (decide_eq_false (by omega)) (decide_eq_false (by omega))
  · rcases h2 with ⟨rfl, rfl⟩ | ⟨rfl, rfl⟩ | ⟨rfl, rfl⟩
    · exact f23_0 _ hs w h1
    · exact f23_1 s hs w h1
    · exact f23_2 s hs w h1
theorem f28_arg (u v : Value) (zs : List Int) (hx : zs.length ≤ 1000000) (w : World) (hu : R32 w u zs) (hv : A32 w v zs) : Calls Tryd.prog 28 #[u, v] w fun e w' => e = .returned (.bool true) ∧ Below w.heap.size w w' := by
  rcases hv with ⟨a, c, rfl, rfl⟩ | hv
  · obtain ⟨a', c', rfl⟩ := r32_len hu
    exact f28_zero a' a c' c w
  · refine (f28_any u v zs zs hx w hu hv).mono ?_
    rintro e w' ⟨rfl, hb⟩
    exact ⟨by simp, hb⟩
theorem f28_same (u v : Value) (zs : List Int) (hx : zs.length ≤ 1000000) (w : World) (hu : R32 w u zs) (hv : R32 w v zs) : Calls Tryd.prog 28 #[u, v] w fun e w' => e = .returned (.bool true) ∧ Below w.heap.size w w' := by
  refine (f28_any u v zs zs hx w hu hv).mono ?_
  rintro e w' ⟨rfl, hb⟩
  exact ⟨by simp, hb⟩
end Go.Proofs.YtllnfiidmpopkaaDoor
