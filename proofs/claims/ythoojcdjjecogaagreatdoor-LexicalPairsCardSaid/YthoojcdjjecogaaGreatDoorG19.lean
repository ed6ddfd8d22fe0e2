/-
  Part 19 of the proof: what functions return, and plain facts (Mrsplit). Conditions: each theorem names its own.
-/
import Derived.Test.YthoojcdjjecogaaGreatDoorG18
set_option maxRecDepth 1000000
set_option maxHeartbeats 16000000
namespace Go.Proofs.YthoojcdjjecogaaGreatDoor
open Go Go.RowKit Go.Ex

def dgX (j : Nat) : X := .conv .i64 (.sub .u8 (.idx (.at 5) (.int (Int.ofNat j))) (.int 48))
def rsX : Nat -> X
 | 0 => .int 0
 | 1 => .add .i64 (.int 0) (dgX 0)
 | k + 1 => .add .i64 (.mul .i64 (rsX k) (.int 10)) (dgX k)
def rsF (i : Nat) : Fx := (.lt (.int (Int.ofNat i)) (.len (.at 5)), false) :: (List.range i).map fun j : Nat => (.lt (.int (Int.ofNat j)) (.len (.at 5)), true)
def rsT (i : Nat) : Tree := .node (.at 4)
 (.node (.at 11) (.leaf (.agg [.xi .i64 (.sub .i64 (.neg .i64 (rsX i)) (.int 1)), xb 15, xs 16, xi 17])) (.leaf (.agg [.xi .i64 (.neg .i64 (rsX i)), .bool false, xs 12, xi 13])))
 (.node (.at 11) (.leaf (.agg [.xi .i64 (.sub .i64 (rsX i) (.int 1)), xb 15, xs 16, xi 17])) (.leaf (.agg [.xi .i64 (rsX i), .bool false, xs 12, xi 13])))
def rspC : List CallX := [⟨78, [it 1], [], one⟩, ⟨152, [deV 1, one, it 0], [], .tup [deV 4, xi 7]⟩, ⟨153, [deV 1, deV 4], [], .tup [deV 11, xi 14]⟩, ⟨154, [deV 11, one], [], .tup [deV 15, xi 18]⟩]
theorem run_rsplit : ([1, 2, 3, 4, 5, 6, 7, 8, 9, 10, 11, 12, 13, 14, 15, 16, 17] : List Nat).all (fun i => chk (runTr Tryz.prog nG (fun _ => none) gd moT rspC 100 132 [deV 1] h0) (rsT i) (rsF i)) = true := by decide +kernel
theorem fx_ok {E : Nat -> Value} : ∀ {F : Fx}, (∀ p ∈ F, p.1.evB E = p.2) -> F.Ok E
 | [], _ => trivial
 | _ :: _, h => ⟨h _ (List.mem_cons_self ..), fx_ok fun p hp => h p (List.mem_cons_of_mem _ hp)⟩
theorem byte_gb (s : ByteArray) (j : Nat) : (s.data.getD j 0).toNat = gb s j := by
 unfold gb bts
 rw [List.getD_eq_getElem?_getD, List.getElem?_map, Array.getD_eq_getD_getElem?, Array.getElem?_toList]
 cases s.data[j]? <;> rfl
theorem gb_dig {s : ByteArray} {j : Nat} (hd : (bts s).all Dc.dig = true) (hj : j < s.size) : 48 <= gb s j /\ gb s j <= 57 := by
 have hl : j < (bts s).length := by rw [bts_length]; exact hj
 have e : gb s j = (bts s)[j] := by unfold gb; rw [List.getD_eq_getElem?_getD, List.getElem?_eq_getElem hl]; rfl
 rw [e]
 exact Dc.dig_iff.1 (List.all_eq_true.1 hd _ (List.getElem_mem hl))
theorem dg_ev {E : Nat -> Value} {s : ByteArray} (hs : E 5 = .string s) {j : Nat} (hd : (bts s).all Dc.dig = true) (hj : j < s.size) : (dgX j).evI E = (gb s j : Int) - 48 := by
 obtain ⟨d1, d2⟩ := gb_dig hd hj
 simp only [dgX, X.evI, X.evS, hs, Int.ofNat_eq_natCast, Int.toNat_natCast, byte_gb]
 rw [IntKind.wrap_u8, w64 (by omega) (by omega)]
 omega
theorem val_take_succ {s : ByteArray} {j : Nat} (hd : (bts s).all Dc.dig = true) (hj : j < s.size) : (Dc.val ((bts s).take (j + 1)) : Int) = Dc.val ((bts s).take j) * 10 + ((gb s j : Int) - 48) := by
 obtain ⟨d1, d2⟩ := gb_dig hd hj
 rw [take_val hj, byte_eq hj]
 omega
theorem rs_ev {E : Nat -> Value} {s : ByteArray} (hs : E 5 = .string s) (hd : (bts s).all Dc.dig = true) : ∀ i : Nat, i <= s.size -> i <= 17 -> (rsX i).evI E = Dc.val ((bts s).take i)
 | 0, _, _ => rfl
 | 1, h, _ => by
  have e := val_take_succ hd (j := 0) (by omega)
  obtain ⟨d1, d2⟩ := gb_dig hd (j := 0) (by omega)
  have ev : (rsX 1).evI E = IntKind.i64.wrap (0 + (dgX 0).evI E) := rfl
  rw [ev, dg_ev hs hd (by omega), w64 (by omega) (by omega), e]
  simp [Dc.val]
 | k + 2, h, h17 => by
  have ih := rs_ev hs hd (k + 1) (by omega) (by omega)
  have e : (Dc.val ((bts s).take (k + 2)) : Int) = Dc.val ((bts s).take (k + 1)) * 10 + ((gb s (k + 1) : Int) - 48) := val_take_succ hd (j := k + 1) (by omega)
  obtain ⟨d1, d2⟩ := gb_dig hd (j := k + 1) (by omega)
  have hlt : Dc.val ((bts s).take (k + 2)) < 10 ^ 17 := by
   have h1 := Dc.val_lt (l := (bts s).take (k + 2)) (by rw [List.all_eq_true]; exact fun x hx => List.all_eq_true.1 hd x (List.mem_of_mem_take hx))
   rw [List.length_take, bts_length, Nat.min_eq_left h] at h1
   exact Nat.lt_of_lt_of_le h1 (Nat.pow_le_pow_right (by decide) h17)
  have hlt : (Dc.val ((bts s).take (k + 2)) : Int) < 100000000000000000 := by
   have : (10 : Nat) ^ 17 = 100000000000000000 := by decide
   omega
  have ev : (rsX (k + 2)).evI E = IntKind.i64.wrap (IntKind.i64.wrap ((rsX (k + 1)).evI E * 10) + (dgX (k + 1)).evI E) := rfl
  rw [ev, dg_ev hs hd (by omega), ih, w64 (n := (Dc.val ((bts s).take (k + 1)) : Int) * 10) (by omega) (by omega), w64 (by omega) (by omega), e]
theorem rsplit_at (n : Bool) (s : ByteArray) (S T M : Int) (t : ByteArray) (hT : Small T) (i : Nat) (hi : (Dc.digs (Dc.trunc T).2.1).length = i) (h17 : i <= 17) : ((rsT i).at (envE (.int .i64 M :: spE n s S T t))).den L0 (envE (.int .i64 M :: spE n s S T t)) = .agg (ptL T).toArray := by
 obtain ⟨t0, t1⟩ := hT
 obtain ⟨k1, k2, k3, k4⟩ := Dc.tmod_bd T
 have hn := Dc.split_neg T
 have hsg := sg_trunc T
 have hv := trunc_small ⟨t0, t1⟩
 have hb : bts (str (Dc.digs (Dc.trunc T).2.1)) = Dc.digs (Dc.trunc T).2.1 := bts_digs _
 have hr : (rsX i).evI (envE (.int .i64 M :: spE n s S T t)) = ((Dc.trunc T).2.1 : Int) := by
  rw [rs_ev (s := str (Dc.digs (Dc.trunc T).2.1)) rfl (by rw [hb]; exact Dc.digs_dig _) i (by rw [str_size, hi]; exact Nat.le_refl _) h17, hb, <- hi, List.take_length, Dc.val_digs]
 have e : (rsT i).at (envE (.int .i64 M :: spE n s S T t)) = bif (Dc.trunc T).1 then (bif (Dc.frac (T.tmod Dc.U)).1 then .agg [.xi .i64 (.sub .i64 (.neg .i64 (rsX i)) (.int 1)), xb 15, xs 16, xi 17] else .agg [.xi .i64 (.neg .i64 (rsX i)), .bool false, xs 12, xi 13])
  else (bif (Dc.frac (T.tmod Dc.U)).1 then .agg [.xi .i64 (.sub .i64 (rsX i) (.int 1)), xb 15, xs 16, xi 17] else .agg [.xi .i64 (rsX i), .bool false, xs 12, xi 13]) := rfl
 rw [e, hn]
 unfold Dc.sg at hsg
 by_cases h : T.tmod Dc.U < 0
 ·obtain ⟨p1, p2⟩ := k3 h
  have ha := two_some (f := Dc.addD) (a := Dc.frac (T.tmod Dc.U)) (b := (false, 1, 0)) (Dc.small_ok (Dc.lt_abs k1 k2)).1 Dc.one_ok (Dc.split_add h)
  rw [one_str] at ha
  change twoR Dc.addD _ _ _ false ⟨#[49]⟩ 0 = _ at ha
  rw [decide_eq_true h]
  cases hq : (Dc.trunc T).1 with
  | true =>
   rw [hq, if_pos rfl] at hsg
   show Value.agg [.int .i64 (IntKind.i64.wrap (IntKind.i64.wrap (-(rsX i).evI (envE (.int .i64 M :: spE n s S T t))) - 1)), .bool (twoR Dc.addD _ _ _ _ _ _).n, .string (twoR Dc.addD _ _ _ _ _ _).s, .int .i64 (twoR Dc.addD _ _ _ _ _ _).S].toArray = _
   rw [hr, w64 (n := -((Dc.trunc T).2.1 : Int)) (by omega) (by omega), w64 (by omega) (by omega), hsg]
   unfold ptL decL
   rw [p1, ha]
  | false =>
   rw [hq, if_neg (by decide)] at hsg
   show Value.agg [.int .i64 (IntKind.i64.wrap ((rsX i).evI (envE (.int .i64 M :: spE n s S T t)) - 1)), .bool (twoR Dc.addD _ _ _ _ _ _).n, .string (twoR Dc.addD _ _ _ _ _ _).s, .int .i64 (twoR Dc.addD _ _ _ _ _ _).S].toArray = _
   rw [hr, w64 (by omega) (by omega), hsg]
   unfold ptL decL
   rw [p1, ha]
 ·obtain ⟨p1, p2⟩ := k4 (by omega)
  rw [decide_eq_false h] at hn ⊢
  cases hq : (Dc.trunc T).1 with
  | true =>
   rw [hq, if_pos rfl] at hsg
   show Value.agg [.int .i64 (IntKind.i64.wrap (-(rsX i).evI (envE (.int .i64 M :: spE n s S T t)))), .bool false, .string (str (Dc.digs (Dc.frac (T.tmod Dc.U)).2.1)), .int .i64 ((Dc.frac (T.tmod Dc.U)).2.2 : Int)].toArray = _
   rw [hr, w64 (by omega) (by omega), hsg]
   unfold ptL decL
   rw [p1, p2, hn]
  | false =>
   rw [hq, if_neg (by decide)] at hsg
   show Value.agg [.int .i64 ((rsX i).evI (envE (.int .i64 M :: spE n s S T t))), .bool false, .string (str (Dc.digs (Dc.frac (T.tmod Dc.U)).2.1)), .int .i64 ((Dc.frac (T.tmod Dc.U)).2.2 : Int)].toArray = _
   rw [hr, hsg]
   unfold ptL decL
   rw [p1, p2, hn]
theorem rsplit_is (n : Bool) (s : ByteArray) (S T : Int) (hS : Sec n s S T) (w : World) (M : Int) (hV : Vars M w) : Calls Tryz.prog 132 #[.agg #[.bool n, .string s, .int .i64 S]] w fun e w' => e = .returned (.agg (ptL T).toArray) /\ Below w.heap.size w w' := by
 have k := okB_ok hS.ok
 have ks : s.size <= 1000000 := by have := k.size; omega
 obtain ⟨q1, q2, _⟩ := Dc.tmod_bd T
 obtain ⟨i, hi⟩ : ∃ i, (Dc.digs (Dc.trunc T).2.1).length = i := ⟨_, rfl⟩
 have h17 : i <= 17 := by
  have hv : (Dc.trunc T).2.1 < 10 ^ 17 := by
   obtain ⟨t0, t1⟩ := hS.small
   obtain ⟨k1, k2, k3, k4⟩ := Dc.tmod_bd T
   show (T.tdiv Dc.U).natAbs < _
   have : (10 : Nat) ^ 17 = 100000000000000000 := by decide
   by_cases h : T.tmod Dc.U < 0
   ·have := (k3 h).1; omega
   ·have := (k4 (by omega)).1; omega
  rw [<- hi]
  exact (Dc.digs_length (by decide)).2 hv
 have h1 : 1 <= i := by rw [<- hi]; exact Dc.digs_pos _
 have hc : AllX Tryz.prog (envE (.int .i64 M :: spE n s S T ⟨#[]⟩)) (Vars M) rspC :=
  ⟨⟨rfl, fk, fun _ L w hV => rsmall_is 1 (by decide) (by decide) w M hV⟩,
   ⟨rfl, fk, fun _ L w hV => rdiv_is n s S false ⟨#[49]⟩ 0 0 ks (by decide) _ (div_is hS) w⟩,
   ⟨rfl, fk, fun _ L w hV => rsub_is n s S (Dc.trunc T).1 (str (Dc.digs (Dc.trunc T).2.1)) ((Dc.trunc T).2.2 : Int) ks (digs_size60 (Dc.trunc_ok hS.abs).1) _ (sub_is hS) w⟩,
   ⟨rfl, fk, fun _ L w hV => radd_is (Dc.frac (T.tmod Dc.U)).1 (str (Dc.digs (Dc.frac (T.tmod Dc.U)).2.1)) ((Dc.frac (T.tmod Dc.U)).2.2 : Int) false ⟨#[49]⟩ 0 (digs_size60 (Dc.small_ok (Dc.lt_abs q1 q2)).1) (by decide) _ rfl w⟩, trivial⟩
 have hr := List.all_eq_true.1 run_rsplit i (by simp only [List.mem_cons, List.not_mem_nil, or_false]; omega)
 have e5 : (X.at 5).evS (envE (.int .i64 M :: spE n s S T ⟨#[]⟩)) = str (Dc.digs (Dc.trunc T).2.1) := rfl
 have hF : (rsF i).Ok (envE (.int .i64 M :: spE n s S T ⟨#[]⟩)) := by
  refine fx_ok fun p hp => ?_
  unfold rsF at hp
  rcases List.mem_cons.1 hp with rfl | hp
  ·simp only [X.evB, X.evI, e5, str_size, hi]
   exact decide_eq_false (by rw [Int.ofNat_eq_natCast]; omega)
  ·obtain ⟨j, hj, rfl⟩ := List.mem_map.1 hp
   have := List.mem_range.1 hj
   simp only [X.evB, X.evI, e5, str_size, hi]
   exact decide_eq_true (by rw [Int.ofNat_eq_natCast]; omega)
 have h := tree_run (env := spE n s S T ⟨#[]⟩) hr hc rfl hF rfl hV
 rw [rsplit_at n s S T M ⟨#[]⟩ hS.small i hi h17] at h
 exact h
end Go.Proofs.YthoojcdjjecogaaGreatDoor
