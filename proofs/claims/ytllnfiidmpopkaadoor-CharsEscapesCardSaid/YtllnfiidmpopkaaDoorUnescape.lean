/-
  What Unescape of the program returns. Conditions: the string's size, the program's table of ranges and its map of names, the library's variable for errors.
-/
import Derived.Test.YtllnfiidmpopkaaDoorMeaning3
import Derived.Test.YtllnfiidmpopkaaDoorEscaped
import Derived.Test.YtllnfiidmpopkaaDoorEscape
namespace Go.Proofs.YtllnfiidmpopkaaDoor
open Go Go.RowKit

theorem f39_any (k : ByteArray) (hk : k.size ≤ 1000000) (w : World) (hV : EscVar w) (hG : Rng w) (hE : ErrVar w) : Calls Tryd.prog 39 #[.string k] w fun e w' => Means k e ∧ Below w.heap.size w w' := by
  cases hn : nameM (bts k) with
  | some c => exact f39_name k hk c hn w hV
  | none =>
    by_cases hh : (bts k).head? = some (35 : UInt8).toNat
    · have hr := bts_tail k
      by_cases hx : (bts (k.extract 1 k.size)).head? = some (120 : UInt8).toNat
      · have ht := bts_tail (k.extract 1 k.size)
        by_cases h0 : ((k.extract 1 k.size).extract 1 (k.extract 1 k.size).size).size = 0
        · exact f39_x_0 k _ _ hk hn hh hr hx ht w hV h0
        · by_cases h20 : 20 < ((k.extract 1 k.size).extract 1 (k.extract 1 k.size).size).size
          · exact f39_x_20 k _ _ hk hn hh hr hx ht w hV h20
          · exact f39_x_n k _ _ hk hn hh hr hx ht w hV hG hE (Nat.pos_of_ne_zero h0) (by omega)
      · by_cases h0 : (k.extract 1 k.size).size = 0
        · exact f39_d_0 k _ hk hn hh hr hx w hV h0
        · by_cases h20 : 20 < (k.extract 1 k.size).size
          · exact f39_d_20 k _ hk hn hh hr hx w hV h20
          · exact f39_d_n k _ hk hn hh hr hx w hV hG hE (Nat.pos_of_ne_zero h0) (by omega)
    · exact f39_bare k hk hn hh w hV
theorem f39_yes (k : ByteArray) (hk : k.size ≤ 1000000) (w : World) (hV : EscVar w) (hG : Rng w) (hE : ErrVar w) {n : Nat} (hn : charM (bts k) = some n) :
    Calls Tryd.prog 39 #[.string k] w fun e w' => (∃ bs, bs = str (Ch.encN n) ∧ e = .returned (.tuple #[.string bs, .bool true])) ∧ Below w.heap.size w w' := by
  refine (f39_any k hk w hV hG hE).mono ?_
  rintro e w' ⟨⟨c, hc, rfl⟩ | ⟨hc, _⟩, hb⟩
  · rw [hn] at hc; cases hc; exact ⟨⟨_, rfl, rfl⟩, hb⟩
  · rw [hn] at hc; cases hc
theorem f39_no (k : ByteArray) (hk : k.size ≤ 1000000) (w : World) (hV : EscVar w) (hG : Rng w) (hE : ErrVar w) (hn : charM (bts k) = none) :
    Calls Tryd.prog 39 #[.string k] w fun e w' => e = .returned (.tuple #[.string ⟨#[]⟩, .bool false]) ∧ Below w.heap.size w w' := by
  refine (f39_any k hk w hV hG hE).mono ?_
  rintro e w' ⟨⟨c, hc, _⟩ | ⟨_, rfl⟩, hb⟩
  · rw [hn] at hc; cases hc
  · exact ⟨rfl, hb⟩

theorem f38_at (s : ByteArray) (p q : Nat) (hp : p < s.size) (hc : (bts s).getD p 0 = 38) (hq : find59 ((bts s).drop (p + 1)) = q) (w : World) :
    Calls Tryd.prog 38 #[.string (s.extract p s.size), .int .u8 59] w fun e w' => e = .returned (.int .i64 (if q = s.size - (p + 1) then -1 else ((q + 1 : Nat) : Int))) ∧ w = w' := by
  refine (Tryd.strings_IndexByte (s.extract p s.size) 59 w).mono ?_
  rintro e w' ⟨rfl, rfl⟩
  refine ⟨?_, rfl⟩
  have hl : p < (bts s).length := by rw [bts_length]; exact hp
  have e1 : (s.extract p s.size).data.toList.map UInt8.toNat = 38 :: (bts s).drop (p + 1) := by
    have := bts_from s p
    rw [bts] at this
    rw [this, drop_getD _ _ hl, hc]
  have e2 : (s.extract p s.size).data.toList.length = (s.size - (p + 1)) + 1 := by
    have : (s.extract p s.size).data.toList.length = (38 :: (bts s).drop (p + 1)).length := by rw [← e1, List.length_map]
    rw [this]; simp [bts_length]
  have e3 : find59 (38 :: (bts s).drop (p + 1)) = q + 1 := by rw [← hq]; simp [find59, List.findIdx_cons]
  have e4 : ((59 : Int).toNat.toUInt8) = 59 := rfl
  rw [e4, indexByte_59, e1, e2, e3]
  congr 3
  exact propext ⟨by omega, by omega⟩

theorem builder_below {B b : Nat} {bs : List Value} {w w' : World} (h : Lib.IsBuilder 48 5 B b bs w) (hb : Below w.heap.size w w') : Lib.IsBuilder 48 5 B b bs w' := by
  have one : ∀ p, Lib.BuilderAt 48 5 B b p bs w → Lib.BuilderAt 48 5 B b p bs w' := by
    rintro p ⟨hB, v, hbk, hown, hne⟩
    exact ⟨hB, v, (hb.block b (Array.getElem?_eq_some_iff.1 hbk).1).trans hbk, own_below hown hb, hne⟩
  exact h.imp (one _) (one _)
set_option maxRecDepth 100000 in
set_option maxHeartbeats 4000000 in
theorem f20_any (s : ByteArray) (hs : s.size ≤ 150000) (w : World) (hG : Rng w) (hV : EscVar w) (hE : ErrVar w) : Calls Tryd.prog 20 #[.string s] w fun e w' => e = unEnd s ∧ Below w.heap.size w w' := by
  rcases wrongI_cases s with hw | hw
  · have HW : Hid _ := Lib.hid hw
    have h5 := hE.lt
    clear hw
    go_enter Tryd.func20, Tryd.ntmps20
    go_wp2_with (go_at_call 31; refine (f31_any s (by unfold maxLen; omega) _ hG).mono ?_; rintro e w0 ⟨rfl, hb0⟩; rw [HW.out])
    have hbl0 : Lib.IsBuilder 48 5 w.heap.size w0.heap.size (u8s []) (w0.alloc (.cells #[.pointer none, .slice none 0 0] 48)) :=
      .inl ⟨hb0.size, _, World.alloc_heap_new w0 _, ⟨rfl, .inl ⟨rfl, rfl⟩⟩, by simp [Value.ownBlock]⟩
    have hbb0 : Below w.heap.size w (w0.alloc (.cells #[.pointer none, .slice none 0 0] 48)) := hb0.alloc hb0.size _
    go_loopw [7] (fun i wr => ∃ (p f : Nat) (out : List Nat), p ≤ s.size ∧ s.size < p + f ∧ out.length ≤ 4 * p ∧ i = .int .i64 p ∧ Hid (unT s = unF f ((bts s).drop p) p out) ∧ Hid (∀ b ∈ out, b < 256) ∧
      Lib.IsBuilder 48 5 w.heap.size w0.heap.size (u8s out) wr ∧ Below w.heap.size w wr) (fun i _ => s.size - (intOf i).toNat)
    case atStart => exact ⟨0, s.size + 1, [], Nat.zero_le _, by omega, by simp, rfl, Lib.hid rfl, Lib.hid (by simp), hbl0, hbb0⟩
    case round =>
      obtain ⟨p, f, out, hp, hf, hol, rfl, hun, hlt256, hbld, hB⟩ := hrel
      clear hbl0 hbb0
      by_cases hlt : p < s.size
      · obtain ⟨f, rfl⟩ : ∃ f', f = f' + 1 := ⟨f - 1, by omega⟩
        have hpl : p < (bts s).length := by rw [bts_length]; exact hlt
        have hul : (u8s out).length ≤ 1000000 := by rw [u8s_length]; omega
        obtain ⟨c, hc⟩ : ∃ c, (s[p]'hlt).toNat = c := ⟨_, rfl⟩
        have hcg : (bts s).getD p 0 = c := by rw [← hc, byte_eq hlt]; rfl
        have hc256 : c < 256 := by rw [← hc]; exact (s[p]'hlt).toNat_lt
        by_cases h38 : c = 38
        · subst h38
          obtain ⟨q, hq⟩ : ∃ q, find59 ((bts s).drop (p + 1)) = q := ⟨_, rfl⟩
          have hlr : ((bts s).drop (p + 1)).length = s.size - (p + 1) := by rw [List.length_drop, bts_length]
          have hqle : q ≤ s.size - (p + 1) := by rw [← hq, ← hlr]; exact find59_le _
          have hix := f38_at s p q hlt hcg hq
          by_cases hqe : q = s.size - (p + 1)
          · have hfin : Hid (unT s = .inl p) := Lib.hid (by rw [hun.out, unF_open f p _ _ hpl hcg (by rw [hq, hlr, hqe])])
            rw [if_pos hqe] at hix
            have HIX : Hid _ := Lib.hid hix
            clear hun hlt256 hcg hq hlr hqe hix hbld
            go_wp2_with (go_at_call 38; refine (HIX.out _).mono ?_; rintro e w1 ⟨rfl, rfl⟩)
            go_ret3
            go_light
            exact ⟨unEnd_bad HW.out hfin.out, hB⟩
          · rw [if_neg hqe] at hix
            have hqlt : q < s.size - (p + 1) := by omega
            obtain ⟨k, hk⟩ : ∃ k, s.extract (p + 1) (p + (q + 1)) = k := ⟨_, rfl⟩
            have hbk : bts k = ((bts s).drop (p + 1)).take q := by
              rw [← hk, bts_extract, List.drop_take, show p + (q + 1) - (p + 1) = q by omega]
            have hks : k.size ≤ 1000000 := by rw [← bts_length, hbk, List.length_take]; omega
            have HIX : Hid _ := Lib.hid hix
            cases hch : charM (bts k) with
            | none =>
              have hfin : Hid (unT s = .inl p) := Lib.hid (by rw [hun.out, unF_bad f p _ _ hpl hcg (by rw [hq, ← hbk]; exact hch)])
              have HCH : Hid _ := Lib.hid hch
              clear hun hlt256 hcg hq hlr hqe hix hbld hch hbk
              go_wp2_with (first
                | (go_at_call 38; refine (HIX.out _).mono ?_; rintro e w1 ⟨rfl, rfl⟩)
                | (go_at_call 39; refine (f39_no k hks _ (EscVar.next hV hB) (hG.next hB) (hE.next hB h5) HCH.out).mono ?_; rintro e w1 ⟨rfl, hb1⟩))
              go_ret3
              go_light
              exact ⟨unEnd_bad HW.out hfin.out, hB.trans (hb1.mono hB.size)⟩
            | some n =>
              have hun' : Hid (unT s = unF f ((bts s).drop (p + q + 2)) (p + q + 2) (out ++ Ch.encN n)) := Lib.hid (by
                have := unF_ref f p n (bts s) out hpl hcg (by rw [hq, hlr]; exact hqlt) (by rw [hq, ← hbk]; exact hch)
                rw [hun.out, this, hq])
              have hn := charM_le hch
              have hlt' : Hid (∀ b ∈ out ++ Ch.encN n, b < 256) := Lib.hid (fun b hb => by
                rcases List.mem_append.1 hb with h | h
                · exact hlt256.out b h
                · exact Ch.encN_lt hn b h)
              have hl4 : (Ch.encN n).length ≤ 4 := by rw [Ch.encN_length]; exact (Ch.lenN_pos n).2
              have HCH : Hid _ := Lib.hid hch
              clear hun hlt256 hcg hq hlr hqe hix hch hbk
              go_wp2_with (first
                | (go_at_call 38; refine (HIX.out _).mono ?_; rintro e w1 ⟨rfl, rfl⟩)
                | (go_at_call 39; refine (f39_yes k hks _ (EscVar.next hV hB) (hG.next hB) (hE.next hB h5) HCH.out).mono ?_; rintro e w1 ⟨⟨bs, hbs, rfl⟩, hb1⟩; have hbl : bs.size ≤ 4 := (by rw [hbs, str_size]; exact hl4); have HBS : Hid _ := Lib.hid hbs; clear hbs; have hbld1 := builder_below hbld hb1)
                | (go_at_call 32; refine (f32_any w.heap.size w0.heap.size _ _ _ hbld1 (by omega) (Nat.le_trans hB.size hb1.size)).mono ?_; rintro e w2 ⟨rfl, hbl2, hb2⟩))
              go_roundw
              case rel =>
                have e1 : Lib.strCells bs = u8s (Ch.encN n) := by rw [HBS.out]; exact strCells_str _ (Ch.encN_lt hn)
                rw [e1, ← u8s_append] at hbl2
                exact ⟨p + q + 2, f, out ++ Ch.encN n, by omega, by omega, by simp only [List.length_append]; omega, by go_num, hun', hlt', .inr hbl2, (hB.trans (hb1.mono hB.size)).trans hb2⟩
              case measure => simp [intOf]; omega
        · have n38 : ((c : Int) == 38) = false := beq_no h38
          have hun' : Hid (unT s = unF f ((bts s).drop (p + 1)) (p + 1) (out ++ [c])) := Lib.hid (by rw [hun.out, unF_char f p _ _ hpl (by rw [hcg]; exact h38), hcg])
          have hlt' : Hid (∀ b ∈ out ++ [c], b < 256) := Lib.hid (fun b hb => by
            rcases List.mem_append.1 hb with h | h
            · exact hlt256.out b h
            · simp at h; omega)
          clear hun hlt256 hcg h38
          go_wp2_with (go_at_call 34; refine (f34_any w.heap.size w0.heap.size _ _ _ hbld (by omega) hB.size).mono ?_; rintro e w1 ⟨rfl, hbl1, hb1⟩)
          go_roundw
          case rel => exact ⟨p + 1, f, out ++ [c], by omega, by omega, by simp; omega, by simp, hun', hlt', by rw [u8s_append]; exact .inr hbl1, hB.trans hb1⟩
          case measure => simp [intOf]; omega
      · have hfin : Hid (unT s = .inr out) := Lib.hid (by rw [hun.out, unF_end f p _ _ (by rw [bts_length]; omega)])
        have hbld' : Lib.IsBuilder 48 5 w.heap.size w0.heap.size (Lib.byteCells (out.map UInt8.ofNat)) wr := by
          rw [byteCells_u8 _ hlt256.out]; exact hbld
        clear hun hlt256 hbld
        go_wp2_with (go_at_call 35; refine (Tryd.Builder_String_any w.heap.size w0.heap.size _ _ hbld' hB.size).mono ?_; rintro e w1 ⟨rfl, hb1⟩)
        go_ret3
        go_light
        exact ⟨unEnd_good HW.out hfin.out rfl, hB.trans hb1⟩
  · have hd : decide (0 ≤ wrongI s) = true := decide_eq_true hw
    have HW : Hid _ := Lib.hid hw
    clear hw
    go_enter Tryd.func20, Tryd.ntmps20
    go_wp2_with (go_at_call 31; refine (f31_any s (by unfold maxLen; omega) _ hG).mono ?_; rintro e w0 ⟨rfl, hb0⟩)
    go_ret3
    go_light
    exact ⟨unEnd_wrong HW.out, hb0⟩
end Go.Proofs.YtllnfiidmpopkaaDoor
