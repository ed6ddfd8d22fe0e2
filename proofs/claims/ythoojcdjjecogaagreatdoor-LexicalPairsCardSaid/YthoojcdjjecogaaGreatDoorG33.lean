/-
  Part 33 of the proof: what functions return, and plain facts (Mptext). Conditions: each theorem names its own.
-/
import Derived.Test.YthoojcdjjecogaaGreatDoorG25
import Derived.Test.YthoojcdjjecogaaGreatDoorG32
import Derived.Test.YthoojcdjjecogaaGreatDoorG18
import Derived.StillTailTactics
set_option maxRecDepth 1000000
set_option maxHeartbeats 16000000
namespace Go.Proofs.YthoojcdjjecogaaGreatDoor
open Go Go.RowKit
structure TB (w0 w : World) (m b : Nat) (x : Mo) (A : List Nat) : Prop where
 mo : Blk w m 26 x.list.toArray
 bd : Lib.IsBuilder 99 5 b b (u8s A) w
 lo : w0.heap.size <= m
 mb : m < b
 sz : A.length <= 1000
 lt : ∀ c ∈ A, c < 256
 bel : Below w0.heap.size w0 w
section
variable {w0 w w' : World} {m b : Nat} {x : Mo} {A : List Nat}
theorem TB.ble (h : TB w0 w m b x A) : b < w.heap.size := by rcases h.bd with q | q <;> exact q.lt
theorem TB.add (h : TB w0 w m b x A) {s : ByteArray} (hd : Lib.BuilderAt 99 5 b b (.pointer (some ⟨b, 0, none⟩)) (u8s A ++ Lib.strCells s) w') (hb : Below b w w') (hs : (A ++ bts s).length <= 1000) : TB w0 w' m b x (A ++ bts s) :=
 ⟨(hb.block m h.mb).trans h.mo, .inr (by rw [u8s_append, <- strCells_bts]; exact hd), h.lo, h.mb, hs, fun c hc => by
  rcases List.mem_append.1 hc with q | q
  ·exact h.lt c q
  ·exact bts_lt s c q, h.bel.trans (hb.mono (by have := h.lo; have := h.mb; omega))⟩
theorem TB.as (h : TB w0 w m b x A) {B : List Nat} (e : A = B) : TB w0 w m b x B := e ▸ h
theorem TB.str (h : TB w0 w m b x A) : Calls Tryz.prog 68 #[.pointer (some ⟨b, 0, none⟩)] w fun e w' => e = .returned (.string (str A)) /\ Below w0.heap.size w0 w' := by
 have hd : Lib.IsBuilder 99 5 b b (Lib.byteCells (A.map UInt8.ofNat)) w := by rw [byteCells_u8 _ h.lt]; exact h.bd
 refine (Tryz.Builder_String_any b b _ w hd (Nat.le_of_lt h.ble)).mono ?_
 rintro e w' ⟨rfl, hb⟩
 exact ⟨rfl, h.bel.trans (hb.mono (by have := h.lo; have := h.mb; omega))⟩
end
end Go.Proofs.YthoojcdjjecogaaGreatDoor
