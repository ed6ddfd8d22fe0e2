/-
  What 'meaning' of the program returns. Conditions: the program's map of names, the string's size.
-/
import Derived.Test.YtllnfiidmpopkaaDoorDigit
namespace Go.Proofs.YtllnfiidmpopkaaDoor
open Go Go.RowKit

/-- The five names. -/
def nameM (l : List Nat) : Option Nat :=
  if l = [108, 116] then some 60 else if l = [103, 116] then some 62 else if l = [97, 109, 112] then some 38 else if l = [113, 117, 111, 116] then some 34 else if l = [97, 112, 111, 115] then some 39 else none
theorem charM_eq (l : List Nat) : charM l = match nameM l with
    | some c => some c
    | none => if l.head? = some 35 then (if l.tail.head? = some 120 then digM true l.tail.tail else digM false l.tail) else none := by
  unfold charM nameM
  repeat' split
  all_goals simp_all
/-- The program's map of names stands. -/
def EscVar (w : World) : Prop := ∃ bm es clock, w.cell? ⟨1, 0, none⟩ = some (.map (some bm)) ∧ w.heap[bm]? = some (.map es clock) ∧
  ∀ W : World, W.heap[bm]? = some (.map es clock) → ∀ k : ByteArray, k.size ≤ 1000000 → (Instr.lookup 71 (.map (some bm)) (.string k) true).run Tryd.prog W =
    .ok (.tuple #[.string (match nameM (bts k) with | some c => str [c] | none => ⟨#[]⟩), .bool (nameM (bts k)).isSome]) W
theorem EscVar.next {w w' : World} (h : EscVar w) (hb : Below w.heap.size w w') : EscVar w' := by
  obtain ⟨bm, es, clock, h1, h2, h3⟩ := h
  have hl : 1 < w.heap.size := by
    rcases Nat.lt_or_ge 1 w.heap.size with h' | h'
    · exact h'
    · rw [World.cell?, Array.getElem?_eq_none h'] at h1; cases h1
  have hm : bm < w.heap.size := (Array.getElem?_eq_some_iff.1 h2).1
  exact ⟨bm, es, clock, by rw [World.cell?, hb.block 1 hl]; exact h1, (hb.block bm hm).trans h2, h3⟩

/-- What 'meaning' answers. -/
def Means (k : ByteArray) (e : Ending) : Prop := (∃ c, charM (bts k) = some c ∧ e = .returned (.tuple #[.string (str (Ch.encN c)), .bool true])) ∨ (charM (bts k) = none ∧ e = .returned (.tuple #[.string ⟨#[]⟩, .bool false]))
theorem Means.yes {k : ByteArray} {c : Nat} (h : charM (bts k) = some c) {bs : ByteArray} (hb : bs = str (Ch.encN c)) : Means k (.returned (.tuple #[.string bs, .bool true])) := .inl ⟨c, h, by rw [hb]⟩
theorem Means.no {k : ByteArray} (h : charM (bts k) = none) : Means k (.returned (.tuple #[.string ⟨#[]⟩, .bool false])) := .inr ⟨h, rfl⟩
theorem nameM_small {l : List Nat} {c : Nat} (h : nameM l = some c) : Ch.encN c = [c] := by
  unfold nameM at h
  repeat' split at h
  all_goals first | (cases h; rfl) | cases h

theorem pre_iff (k : ByteArray) (b : UInt8) : Lib.hasPrefix k.data.toList [b] = true ↔ (bts k).head? = some b.toNat := by
  have hb : bts k = k.data.toList.map UInt8.toNat := rfl
  rw [hb]
  cases hd : k.data.toList with
  | nil => simp [Lib.hasPrefix, List.isPrefixOf]
  | cons c r =>
    simp only [Lib.hasPrefix, List.isPrefixOf, Bool.and_true, beq_iff_eq, List.map_cons, List.head?_cons, Option.some.injEq]
    exact ⟨fun e => by rw [e], fun e => (UInt8.toNat_inj.1 e).symm⟩
theorem cut_no (k : ByteArray) (b : UInt8) (h : (bts k).head? ≠ some b.toNat) (w : World) : Calls Tryd.prog 51 #[.string k, .string ⟨#[b]⟩] w fun e w' => e = .returned (.tuple #[.string k, .bool false]) ∧ w' = w := by
  have hp : Lib.hasPrefix k.data.toList [b] = false := by
    cases he : Lib.hasPrefix k.data.toList [b] with
    | false => rfl
    | true => exact absurd ((pre_iff k b).1 he) h
  refine (Tryd.strings_CutPrefix k ⟨#[b]⟩ w).mono ?_
  rintro e w' ⟨rfl, rfl⟩
  refine ⟨?_, rfl⟩
  simp only [Lib.trimPrefix]
  rw [hp]
  rfl
theorem cut_yes (k : ByteArray) (b : UInt8) (h : (bts k).head? = some b.toNat) (w : World) : Calls Tryd.prog 51 #[.string k, .string ⟨#[b]⟩] w fun e w' => (∃ r : ByteArray, bts r = (bts k).tail ∧ e = .returned (.tuple #[.string r, .bool true])) ∧ w' = w := by
  have hp := (pre_iff k b).2 h
  refine (Tryd.strings_CutPrefix k ⟨#[b]⟩ w).mono ?_
  rintro e w' ⟨rfl, rfl⟩
  refine ⟨⟨⟨(k.data.toList.drop 1).toArray⟩, ?_, ?_⟩, rfl⟩
  · have hb : bts k = k.data.toList.map UInt8.toNat := rfl
    rw [hb]
    simp [bts]
  · simp only [Lib.trimPrefix]
    rw [hp]
    rfl

set_option maxRecDepth 100000 in
set_option maxHeartbeats 1000000 in
theorem f39_name (k : ByteArray) (hk : k.size ≤ 1000000) (c : Nat) (hn : nameM (bts k) = some c) (w : World) (hV : EscVar w) : Calls Tryd.prog 39 #[.string k] w fun e w' => Means k e ∧ Below w.heap.size w w' := by
  obtain ⟨bm, es, clock, h1, h2, h3⟩ := hV
  have hl := h3 w h2 k hk
  rw [hn] at hl
  have hM : Hid (charM (bts k) = some c) := Lib.hid (by rw [charM_eq, hn])
  have hE := nameM_small hn
  obtain ⟨bs, hbs⟩ : ∃ bs, str [c] = bs := ⟨_, rfl⟩
  have HB : Hid (bs = str (Ch.encN c)) := Lib.hid (by rw [hE, hbs])
  simp only [hbs, Option.isSome_some] at hl
  clear h2 h3 hn hE hbs
  go_enter Tryd.func39, Tryd.ntmps39
  go_wp2
  go_ret2
  exact ⟨Means.yes hM.out HB.out, Below.refl _ _⟩
set_option maxRecDepth 100000 in
set_option maxHeartbeats 1000000 in
theorem f39_bare (k : ByteArray) (hk : k.size ≤ 1000000) (hn : nameM (bts k) = none) (hh : (bts k).head? ≠ some (35 : UInt8).toNat) (w : World) (hV : EscVar w) : Calls Tryd.prog 39 #[.string k] w fun e w' => Means k e ∧ Below w.heap.size w w' := by
  obtain ⟨bm, es, clock, h1, h2, h3⟩ := hV
  have hl := h3 w h2 k hk
  rw [hn] at hl
  have hM : Hid (charM (bts k) = none) := Lib.hid (by rw [charM_eq, hn]; exact if_neg hh)
  simp only [Option.isSome_none] at hl
  clear h2 h3 hn
  go_enter Tryd.func39, Tryd.ntmps39
  go_wp2_with (go_at_call 51; refine (cut_no k 35 hh _).mono ?_; rintro e w2 ⟨rfl, rfl⟩)
  go_ret2
  exact ⟨Means.no hM.out, Below.refl _ _⟩
end Go.Proofs.YtllnfiidmpopkaaDoor
