/-
  Part 28 of the proof: what functions return, and plain facts (Mrtext). Conditions: each theorem names its own.
-/
import Derived.Test.YthoojcdjjecogaaGreatDoorG21
import Derived.Test.YthoojcdjjecogaaGreatDoorG27
import Derived.Test.YthoojcdjjecogaaGreatDoorG12
set_option maxRecDepth 1000000
set_option maxHeartbeats 16000000
namespace Go.Proofs.YthoojcdjjecogaaGreatDoor
open Go Go.RowKit Go.Ex
theorem cat_size (a b : ByteArray) : (a ++ b).size = a.size + b.size := by rw [<- bts_length, str_add, List.length_append, bts_length, bts_length]
def txE (x : Mo) : List Value := x.list ++ [.string (str (twoL 4 x.y.natAbs)), .string (str (twoL 2 x.m.natAbs)), .string (str (twoL 2 x.d.natAbs)), .string (str (twoL 2 x.h.natAbs)), .string (str (twoL 2 x.i.natAbs)), .string (textR x.n x.s x.S).1, .int .i64 (textR x.n x.s x.S).2, .string (str (twoL 2 (x.o.natAbs / 60))), .string (str (twoL 2 (x.o.natAbs % 60)))]
theorem ok_low {x : Mo} (h : Mo.Ok x) : -9999 <= x.y /\ x.y <= 9999 /\ 0 <= x.m /\ x.m <= 12 /\ 0 <= x.d /\ x.d <= 31 /\ 0 <= x.h /\ x.h <= 23 /\ 0 <= x.i /\ x.i <= 59 := by
 obtain ⟨hk, _, _, _, h4, h5⟩ := h
 have a : -9999 <= x.y /\ x.y <= 9999 /\ 0 <= x.m /\ x.m <= 12 /\ 0 <= x.d /\ x.d <= 31 := by
  by_cases h2 : x.k = 2
  ·rw [if_pos h2] at h4; obtain ⟨a, b, c⟩ := h4; omega
  ·rw [if_neg h2] at h4
   obtain ⟨_, q1, q2, q3, q4, q5, q6⟩ := h4
   have := Mo.dim_bd (Mo.counted x.y) x.m
   omega
 have b : 0 <= x.h /\ x.h <= 23 /\ 0 <= x.i /\ x.i <= 59 := by
  by_cases h1 : x.k = 1
  ·rw [if_pos h1] at h5; obtain ⟨a, b, _⟩ := h5; omega
  ·rw [if_neg h1] at h5; obtain ⟨_, q1, q2, q3, q4⟩ := h5; omega
 omega
section
variable {x : Mo} {M : Int}
end
def Mo.secQ (x : Mo) : List Nat := Dc.txt x.n (bts x.s) x.S.toNat
theorem sec_txt {x : Mo} (h : Mo.secB x = true) : textR x.n x.s x.S = (str (Mo.secQ x), 0) /\ (∃ c r, Mo.secQ x = c :: r /\ c ≠ 46 /\ c < 256) /\ (∀ c ∈ Mo.secQ x, c < 256) /\ (Mo.secQ x).length <= 200 := by
 obtain ⟨hk, hn, _⟩ := sec_lt h
 have ho := okB_ok hk
 have e : Mo.secQ x = Dc.dotted (bts x.s) x.S.toNat := by unfold Mo.secQ; rw [hn]; rfl
 refine ⟨by unfold textR; rw [if_pos hk]; rfl, ?_, ?_, ?_⟩
 ·obtain ⟨c, r, h1, h2⟩ := Dc.dotted_cons (bts x.s) x.S.toNat ho.dig.1
  have := Dc.dig_iff.1 h2
  exact ⟨c, r, e.trans h1, by omega, by omega⟩
 ·rw [e]
  intro c hc
  have hw := Dc.wide_dig x.S.toNat ho.dig.1
  have hd : ∀ c ∈ Dc.wide (bts x.s) x.S.toNat, c < 256 := fun c hc => by have := Dc.dig_iff.1 (List.all_eq_true.1 hw c hc); omega
  unfold Dc.dotted at hc
  split at hc
  ·exact hd c hc
  ·rw [List.mem_append, List.mem_cons] at hc
   rcases hc with hc | rfl | hc
   ·exact hd c (List.mem_of_mem_take hc)
   ·decide
   ·exact hd c (List.mem_of_mem_drop hc)
 ·rw [e]
  have hl := Dc.wide_length (bts x.s) x.S.toNat
  have h1 := ho.size
  have h2 := ho.high
  rw [bts_length] at hl
  have h3 : (Dc.wide (bts x.s) x.S.toNat).length <= 61 := by rw [hl]; omega
  unfold Dc.dotted
  split
  ·omega
  ·rw [List.length_append, List.length_cons, List.length_take, List.length_drop]; omega
section
variable {x : Mo} {M : Int}
end
def textV (x : Mo) : Value := .tuple #[.string (Mo.textM x).1, .int .i64 (Mo.textM x).2]
theorem textV_ok {x : Mo} (h : Mo.Ok x) {A : List Nat} (hA : A ++ Mo.zoneL x = Mo.textL x) : Value.tuple #[.string (str (A ++ Mo.zoneL x)), .int .i64 0] = textV x := by
 unfold textV Mo.textM
 rw [hA, if_pos (show Mo.okB x = true from decide_eq_true h)]
section
variable {x : Mo} {M : Int}
end
end Go.Proofs.YthoojcdjjecogaaGreatDoor
