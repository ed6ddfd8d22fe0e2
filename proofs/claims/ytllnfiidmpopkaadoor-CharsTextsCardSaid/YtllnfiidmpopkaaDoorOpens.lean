/-
  A slice of characters that came in. No condition.
-/
import Derived.Test.YtllnfiidmpopkaaDoorGood
import Derived.Test.YtllnfiidmpopkaaDoorSums
import Derived.ChangeSlices
namespace Go.Proofs.YtllnfiidmpopkaaDoor
open Go.ChangeShapes Go.WideShapes Go.ChangeAt Go.ChangeMaps Go.RowKit

theorem Tryd.cells21 : Tryd.prog.cellsOf 21 = 1 := by kernel_rfl
set_option maxRecDepth 100000 in
theorem open_chars {H : Type} {enc : TypeId × Value → H} {W : World} {r : Reach} {b0 : Nat} {v : Value} {d : DataW H} {ps : List MemPlace} (hval : Value.okWide Tryd.prog W r b0 33 v) (hd : DataW.Trod enc Tryd.prog W 0 (fun _ => true) true 33 v d ps) :
    ∃ zs, A32 W v zs ∧ zs.length ≤ maxLen := by
  obtain ⟨a0, len0, cap0, rfl⟩ := okWide_slice Tryd.underlying33 hval
  obtain ⟨fuel, hf⟩ := hd
  rcases open_ints Tryd.underlying33 Tryd.underlying21 Tryd.cells21 hf with ⟨hcs, _⟩ | ⟨a, len, cap, zs, hcs, _, hl, hm, hz, _, hcell, _⟩
  · simp [Value.cells] at hcs
    obtain ⟨rfl, rfl, rfl⟩ := hcs
    exact ⟨[], .inl ⟨_, _, rfl, rfl⟩, by simp⟩
  · simp [Value.cells] at hcs
    obtain ⟨rfl, rfl, rfl⟩ := hcs
    simp only [if_true] at hz
    by_cases h0 : len0 = 0
    · subst h0
      exact ⟨[], .inl ⟨_, _, rfl, rfl⟩, by simp⟩
    · obtain ⟨b, off, spot⟩ := a
      have g0 := hcell 0 (by omega)
      have hspot : spot = none := by simpa [Addr.add] using World.cell?_spot g0
      subst hspot
      have hat : ∀ j : Nat, ((⟨b, off, none⟩ : Addr).add j) = ⟨b, off + j, none⟩ := fun j => by
        unfold Addr.add; split
        · rename_i h; rw [h]; rfl
        · rfl
      have hb : b < W.heap.size := by
        rw [hat 0] at g0
        rcases Nat.lt_or_ge b W.heap.size with h | h
        · exact h
        · rw [World.cell?, Array.getElem?_eq_none h] at g0; cases g0
      have hlen : (zs.take len0).length = len0 := by rw [List.length_take]; omega
      refine ⟨zs.take len0, .inr (.inr ⟨b, off, cap0, by rw [hlen], hb, fun j hj => ?_⟩), by rw [hlen]; omega⟩
      rw [hlen] at hj
      have := hcell j (by omega)
      rw [hat j] at this
      rw [this]
      congr 2
      simp [List.getD_eq_getElem?_getD, hj]
end Go.Proofs.YtllnfiidmpopkaaDoor
