/-
  What the rows' list of variables gives the walks; the end of a law that returns true and leaves everything as it was. No condition.
-/
import Derived.Test.YtllnfiidmpopkaaDoorLift
import Derived.Test.YtllnfiidmpopkaaDoorShown
import Derived.Carry
import Derived.StringKeys
namespace Go.Proofs.YtllnfiidmpopkaaDoor
open Go.ChangeShapes Go.WideShapes Go.ChangeAt Go.WideMaps Go.WideElems Go.RowKit

/-- An interface's one cell. -/
theorem iface_cell {enc : TypeId × Value → Unit} {P : Program} {w : World} {base fuel : Nat} {sp : Nat → Bool} {held : Bool} {t : TypeId} {ms : Array (String × TypeId)} {cs : List Value} {x : DataW Unit × List MemPlace}
    (ht : P.underlying t = some (.interface ms)) (h : DataW.trod enc P w base sp held fuel t cs = some x) : cs = [.nilIface] ∨ ∃ u v, cs = [.iface u v] := by
  cases fuel with
  | zero => simp [DataW.trod] at h
  | succ m =>
    unfold DataW.trod at h
    rw [ht] at h
    split at h <;> simp_all
set_option maxRecDepth 100000 in
theorem ranges_cells {enc : TypeId × Value → Unit} {W : World} {base fuel : Nat} {sp : Nat → Bool} {held : Bool} {cs : List Value} {p : List MemPlace}
    (h : DataW.trod enc Tryd.prog W base sp held fuel 40 cs = some (Rows.laid_gabarit_chars_ranges, p)) : cs = rngCells.toList := by
  have c39 : Tryd.prog.cellsOf 39 = 2 := by kernel_rfl
  have c40 : Tryd.prog.cellsOf 40 = 12 := by kernel_rfl
  have c21 : Tryd.prog.cellsOf 21 = 1 := by kernel_rfl
  obtain ⟨xs, m, rfl, hx, hlen, hn, hel⟩ := DataW.trod_array Tryd.underlying40 h
  simp only [Prod.mk.injEq, Rows.laid_gabarit_chars_ranges, DataW.agg.injEq] at hx
  rw [c39] at hel
  rw [c40] at hlen
  have row : ∀ (i : Nat) (a b : Int), i < 6 → xs[i]?.map (·.1) = some (Lib.tabData .i32 [a, b]) → (cs.drop (i * 2)).take 2 = [.int .i32 a, .int .i32 b] := by
    intro i a b hi hd
    have he := hel i hi
    cases hxi : xs[i]? with
    | none => rw [hxi] at hd; cases hd
    | some y =>
      obtain ⟨d, q⟩ := y
      rw [hxi] at hd he
      simp only [Option.map_some, Option.some.injEq] at hd
      subst hd
      exact Lib.cells_of_tab Tryd.underlying39 Tryd.underlying21 c21 c39 he
  have at_ : ∀ i : Nat, xs[i]?.map (·.1) = (xs.map (·.1))[i]? := fun i => (List.getElem?_map ..).symm
  rw [← hx.1] at at_
  have r0 := row 0 9 9 (by decide) (by rw [at_]; rfl)
  have r1 := row 1 10 10 (by decide) (by rw [at_]; rfl)
  have r2 := row 2 13 13 (by decide) (by rw [at_]; rfl)
  have r3 := row 3 32 55295 (by decide) (by rw [at_]; rfl)
  have r4 := row 4 57344 65533 (by decide) (by rw [at_]; rfl)
  have r5 := row 5 65536 1114111 (by decide) (by rw [at_]; rfl)
  have step : ∀ n, cs.drop n = (cs.drop n).take 2 ++ cs.drop (n + 2) := fun n => by
    have := List.take_append_drop 2 (cs.drop n)
    rw [List.drop_drop] at this
    exact this.symm
  have e12 : cs.drop 12 = [] := List.drop_eq_nil_of_le (by omega)
  have s0 := step 0
  have s1 := step 2
  have s2 := step 4
  have s3 := step 6
  have s4 := step 8
  have s5 := step 10
  rw [r0] at s0
  rw [r1] at s1
  rw [r2] at s2
  rw [r3] at s3
  rw [r4] at s4
  rw [r5, e12] at s5
  rw [s5] at s4
  rw [s4] at s3
  rw [s3] at s2
  rw [s2] at s1
  rw [s1] at s0
  exact s0
theorem elem_string {H : Type} {enc : TypeId × Value → H} {P : Program} {e : TypeId} (he : P.underlying e = some .string) {W : World} {base : Nat} {held : Bool} {sp : Nat → Bool} {n : Nat} {v : Value} {z : DataW H × List MemPlace}
    (h : elemAt enc P W base sp held n e v = some z) : ∃ s : ByteArray, v = .string s ∧ z.1 = .lit (.string s.data.toList) := by
  unfold elemAt at h
  split at h
  · rename_i hf
    obtain ⟨s, hc, hz, _⟩ := DataW.trod_string he h
    cases v <;> simp [Value.formed, he, Value.cells] at hf hc
    subst hc
    exact ⟨_, rfl, by rw [hz]⟩
  · cases h
/-- The listed map's entry at a string. -/
theorem escapes_at (k : ByteArray) : (Rows.laid_gabarit_chars_escapes (H := Unit)).atKey (.string k.data.toList) .nil = (match nameM (bts k) with | some c => .lit (.string [UInt8.ofNat c]) | none => .nil) := by
  have e : ∀ l : List UInt8, (l == k.data.toList) = decide (bts k = l.map UInt8.toNat) := by
    intro l
    rw [Bool.eq_iff_iff]
    simp only [beq_iff_eq, decide_eq_true_eq]
    constructor
    · rintro rfl; rfl
    · intro h; exact ((List.map_inj_right (f := UInt8.toNat) (fun _ _ e => UInt8.toNat_inj.1 e)).1 h).symm
  simp only [Rows.laid_gabarit_chars_escapes, DataW.atKey, List.find?_cons, List.find?_nil, Lit.sameKey, e]
  simp only [List.map_cons, List.map_nil, show (108 : UInt8).toNat = 108 from rfl, show (116 : UInt8).toNat = 116 from rfl, show (103 : UInt8).toNat = 103 from rfl, show (97 : UInt8).toNat = 97 from rfl, show (109 : UInt8).toNat = 109 from rfl, show (112 : UInt8).toNat = 112 from rfl, show (113 : UInt8).toNat = 113 from rfl, show (117 : UInt8).toNat = 117 from rfl, show (111 : UInt8).toNat = 111 from rfl, show (115 : UInt8).toNat = 115 from rfl]
  unfold nameM
  by_cases h1 : bts k = [97, 109, 112]
  · rw [h1]; rfl
  by_cases h2 : bts k = [97, 112, 111, 115]
  · rw [h2]; rfl
  by_cases h3 : bts k = [103, 116]
  · rw [h3]; rfl
  by_cases h4 : bts k = [108, 116]
  · rw [h4]; rfl
  by_cases h5 : bts k = [113, 117, 111, 116]
  · rw [h5]; rfl
  simp only [h1, h2, h3, h4, h5, decide_false, if_false]

set_option maxRecDepth 100000 in
theorem good_of_laid {W : World} (h : laidMetH Tryd.prog Rows.charsKindsRow.laid W) (hsh : W.ShapedOpen Tryd.prog) : Good W := by
  rw [MakeChecks.laidMetH_plain _ _ _ (by kernel_rfl)] at h
  obtain ⟨ps, hl, _, _⟩ := h
  obtain ⟨_, _, _, _, _, _, _, _, _, _, hl, _⟩ := hl
  obtain ⟨_, _, _, _, _, _, _, _, _, _, hl, _⟩ := hl
  obtain ⟨_, _, _, _, _, _, _, _, _, _, hl, _⟩ := hl
  obtain ⟨_, _, _, _, _, _, _, _, _, _, hl, _⟩ := hl
  obtain ⟨g5, t5, cs5, f5, p5, q5, hg5, ht5, hv5, hd5, hl, _⟩ := hl
  obtain ⟨_, _, _, _, _, _, _, _, _, _, hl, _⟩ := hl
  obtain ⟨g0, t0, cs0, f0, p0, q0, hg0, ht0, hv0, hd0, hl, _⟩ := hl
  obtain ⟨g1, t1, cs1, f1, p1, q1, hg1, ht1, hv1, hd1, hl, _⟩ := hl
  obtain rfl := Option.some.inj (gRange.symm.trans hg5)
  obtain rfl := Option.some.inj (tRange.symm.trans ht5)
  obtain rfl := Option.some.inj (gRanges.symm.trans hg0)
  obtain rfl := Option.some.inj (tRanges.symm.trans ht0)
  obtain rfl := Option.some.inj (gEscapes.symm.trans hg1)
  obtain rfl := Option.some.inj (tEscapes.symm.trans ht1)
  refine ⟨?_, ?_, ?_, ?_⟩
  · have e := ranges_cells hd0
    have e2 : cs0 = rngCells := Array.toList_inj.1 e
    subst e2
    simp only [World.var?, hg0, Option.bind_some] at hv0
    split at hv0
    · rename_i T fr hh
      cases hv0
      exact ⟨T, fr, hh⟩
    · cases hv0
  · rcases open_map Tryd.underlying71 hd1 with ⟨_, hx⟩ | ⟨bm, es, clock, m, rfl, hcs, hb, _, F, hx⟩
    · simp [Rows.laid_gabarit_chars_escapes] at hx
    simp only [Prod.mk.injEq] at hx
    have hcell : W.cell? ⟨1, 0, none⟩ = some (.map (some bm)) := by
      have := World.var?_cell hg1 hv1 0
      rw [Array.eq_one_of_toList hcs] at this
      simpa using this
    refine ⟨bm, es, clock, hcell, hb, fun V hV k hk => ?_⟩
    have zero : (zeroValue 9).run Tryd.prog V = .ok (.string ⟨#[]⟩) V := by kernel_rfl
    have hat0 := escapes_at k
    rcases fit_lookup_ok (w := V) (string_law Tryd.underlying9) Tryd.underlying71 zero hV F (keyOf_string_mk (s := k) Tryd.underlying9 (by unfold maxLen; omega)) with ⟨hrun, hat⟩ | ⟨v, y, hrun, hRv, hat, _⟩
    · have := hat .nil
      rw [← hx.1, hat0] at this
      cases hn : nameM (bts k) with
      | none => rw [hrun]; rfl
      | some c => rw [hn] at this; cases this
    · obtain ⟨s, rfl, hy⟩ := elem_string Tryd.underlying9 hRv
      have := hat .nil
      rw [← hx.1, hat0, hy] at this
      cases hn : nameM (bts k) with
      | none => rw [hn] at this; cases this
      | some c =>
        rw [hn] at this
        simp only [DataW.lit.injEq, Lit.string.injEq] at this
        rw [hrun]
        have es : s = str [c] := by
          cases s with
          | mk d => cases d with
            | mk l => simp at this; subst this; rfl
        rw [es]; rfl
  · rcases iface_cell Tryd.underlying50 hd5 with hc | ⟨u, v, hc⟩
    · have := World.var?_cell hg5 hv5 0
      rw [Array.eq_one_of_toList hc] at this
      exact ⟨_, by simpa using this, .inl rfl⟩
    · have := World.var?_cell hg5 hv5 0
      rw [Array.eq_one_of_toList hc] at this
      exact ⟨_, by simpa using this, .inr ⟨u, v, rfl⟩⟩
  · exact cell_of_shapedOpen_int (zero := #[.int .i64 0]) (t := 3) hsh (of_decide_eq_true (by kernel_rfl)) (by kernel_rfl) rfl (by kernel_rfl) (by kernel_rfl) Tryd.underlying3

section
variable {H : Type} {enc : TypeId × Value → H} {P : Program}
theorem trodAll_below (hl : laidOutB P = true) {W W' : World} (hb : Below W.heap.size W W') : ∀ (ts : List TypeId) (vs : List Value) (ds : List (DataW H)) (ps : List MemPlace), (∀ t ∈ ts, P.readableRec t = true ∧ t < P.types.size) →
    DataW.TrodAll enc P W 0 (fun _ => true) true ts vs ds ps → (∀ x ∈ ps, x.block < W.heap.size) → DataW.TrodAll enc P W' 0 (fun b => decide (b < W.heap.size)) true ts vs ds ps
  | [], [], [], _, _, h, _ => h
  | [], [], _ :: _, _, _, h, _ => h.elim
  | [], _ :: _, _, _, _, h, _ => h.elim
  | _ :: _, [], _, _, _, h, _ => h.elim
  | _ :: _, _ :: _, [], _, _, h, _ => h.elim
  | t :: ts, v :: vs, d :: ds, ps, hr, h, hlt => by
    obtain ⟨p, q, h0, h1, rfl⟩ := h
    obtain ⟨r0, r1⟩ := hr t (List.mem_cons_self ..)
    exact ⟨p, q, Below.trod hl r0 r1 h0 hb (fun x hx => hlt x (by simp [hx])), trodAll_below hl hb ts vs ds q (fun u hu => hr u (List.mem_cons_of_mem _ hu)) h1 (fun x hx => hlt x (by simp [hx])), rfl⟩
/-- A law that has returned true, with all that was there before as it was. -/
theorem post_law (hl : laidOutB P = true) {f : Func} {s : ChangeSpec} {apart fresh handsOn : Bool} {W W' : World} {args : Array Value} {ds gs : List (DataW H)} {before : List MemPlace} {tb : TypeId}
    (hbool : P.underlying tb = some .bool) (hres : f.resultTypes = #[tb]) (hpar : ∀ t ∈ f.params.toList, P.readableRec t = true ∧ t < P.types.size) (hvars : s.vars = [])
    (hfn : s.fn H ds = { results := [.lit (.bool true)], args := ds }) (hW : DataW.Whole enc P f.params.toList s.vars apart W args.toList ds gs before) (hb : Below W.heap.size W W') :
    s.post enc P f apart fresh handsOn false W args (.bool true) W' := by
  have hlt : ∀ x ∈ before, x.block < W.heap.size := fun x hx => hW.lt x hx
  have hW' := hW
  obtain ⟨p, q, hA, hV, rfl, _, _⟩ := hW
  rw [hvars] at hV
  have hgs : gs = [] ∧ q = [] := by
    cases gs with
    | nil => exact ⟨rfl, hV⟩
    | cons _ _ => exact hV.elim
  obtain ⟨rfl, rfl⟩ := hgs
  refine ⟨ds, [], p ++ [], [], p, [], hW', ?_, ?_, ?_, hb.frame _, fun h => by cases h⟩
  · rw [List.append_nil, hfn, hres]
    exact trodAll_mk1 (shut_bool hbool _)
  · rw [List.append_nil, hfn]
    exact trodAll_below hl hb _ _ _ _ hpar hA (fun x hx => hlt x (by simp [hx]))
  · rw [List.append_nil, hfn, hvars]
    rfl
end
end Go.Proofs.YtllnfiidmpopkaaDoor
