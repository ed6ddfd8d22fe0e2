/-
  What DecimalBounds returns: true. Condition: the variables that the program's text lays.
-/
import Derived.Test.YthmmjihldkjhhaaGreatDoorLshown
import Derived.Test.YthmmjihldkjhhaaGreatDoorPcmpd
import Derived.Test.YthmmjihldkjhhaaGreatDoorDround
import Derived.Test.YthmmjihldkjhhaaGreatDoorEvars
namespace Go.Proofs.YthmmjihldkjhhaaGreatDoor.Bounds
open Go Go.RowKit Go.Ex

/-! ### What is known beforehand: atoms 1 to 7 are the arguments -/
def po3 (i : Nat) : V := .agg [.bool false, .atom (i + 1), .atom (i + 2)]
def bouBin (b1 b2 b3 b4 b5 b6 b7 : Bool) : List BinE := [⟨.gtr, 3, .atom 8, it 20, .bool b1⟩, ⟨.gtr, 3, .atom 9, it 20, .bool b2⟩, ⟨.gtr, 3, .atom 3, it 10, .bool b3⟩, ⟨.gtr, 3, .atom 6, it 10, .bool b4⟩, ⟨.lss, 3, .atom 7, it 0, .bool b5⟩, ⟨.gtr, 3, .atom 7, it 10, .bool b6⟩, ⟨.eql, 9, .atom 5, .str [48], .bool b7⟩]
def bouYes : List BinE := [⟨.gtr, 3, .atom 12, .atom 7, .bool false⟩, ⟨.leq, 3, .atom 24, .atom 7, .bool true⟩]
def bouLen : List LenE := [⟨9, .atom 2, .atom 8⟩, ⟨9, .atom 5, .atom 9⟩]
def bouShown : CallE := ⟨8, [], .bool true⟩
def bouCheck (q1 q2 : Bool) : List CallE := [⟨13, [at3 1], it (ck q1)⟩, ⟨13, [at3 4], it (ck q2)⟩]
/-- Not above, by a Bool: below, or equal. -/
def le (b : Bool) : Int := bif b then -1 else 0
def bouA (g h : Bool) : List CallE := [⟨17, [at3 1, at3 4, .atom 7], res3 10 0⟩, ⟨24, [at3 10, at3 4], res3 13 0⟩, ⟨25, [at3 1, at3 13], res3 16 0⟩, ⟨24, [at3 4, .agg [.bool false, .str [49], .atom 7]], res3 19 0⟩,
  ⟨26, [po3 13, po3 1], .tup [it (le g), it 0]⟩, ⟨26, [po3 16, po3 19], .tup [it (-1), it 0]⟩, ⟨19, [at3 1, .atom 7], res3 22 0⟩, ⟨25, [at3 1, at3 22], res3 25 0⟩, ⟨23, [at3 25, at3 25], res3 28 0⟩, ⟨26, [po3 28, .agg [.bool false, .str [49], .atom 7]], .tup [it (le h), it 0]⟩]
noncomputable def bouRun (y : SymF) : Bool := runY Tryz.prog nG (fun _ => none) gd y 100 6 [at3 1, at3 4, .atom 7] h0 retTrue
set_option maxRecDepth 1000000 in
theorem run_bad : ∀ q1 q2 : Bool, (q1 && q2) = false → bouRun ⟨[], [], bouShown :: bouCheck q1 q2⟩ = true := by
  intro q1 q2 h
  cases q1 <;> cases q2 <;> first | (cases h; done) | decide +kernel
def bin1 : List BinE := [⟨.gtr, 3, .atom 8, it 20, .bool true⟩]
set_option maxRecDepth 1000000 in
theorem run_early1 : bouRun ⟨bin1, bouLen, bouShown :: bouCheck true true⟩ = true := by decide +kernel
def bin2 : List BinE := [⟨.gtr, 3, .atom 8, it 20, .bool false⟩, ⟨.gtr, 3, .atom 9, it 20, .bool true⟩]
set_option maxRecDepth 1000000 in
theorem run_early2 : bouRun ⟨bin2, bouLen, bouShown :: bouCheck true true⟩ = true := by decide +kernel
def bin3 : List BinE := [⟨.gtr, 3, .atom 8, it 20, .bool false⟩, ⟨.gtr, 3, .atom 9, it 20, .bool false⟩, ⟨.gtr, 3, .atom 3, it 10, .bool true⟩]
set_option maxRecDepth 1000000 in
theorem run_early3 : bouRun ⟨bin3, bouLen, bouShown :: bouCheck true true⟩ = true := by decide +kernel
def bin4 : List BinE := [⟨.gtr, 3, .atom 8, it 20, .bool false⟩, ⟨.gtr, 3, .atom 9, it 20, .bool false⟩, ⟨.gtr, 3, .atom 3, it 10, .bool false⟩, ⟨.gtr, 3, .atom 6, it 10, .bool true⟩]
set_option maxRecDepth 1000000 in
theorem run_early4 : bouRun ⟨bin4, bouLen, bouShown :: bouCheck true true⟩ = true := by decide +kernel
def bin5 : List BinE := [⟨.gtr, 3, .atom 8, it 20, .bool false⟩, ⟨.gtr, 3, .atom 9, it 20, .bool false⟩, ⟨.gtr, 3, .atom 3, it 10, .bool false⟩, ⟨.gtr, 3, .atom 6, it 10, .bool false⟩, ⟨.lss, 3, .atom 7, it 0, .bool true⟩]
set_option maxRecDepth 1000000 in
theorem run_early5 : bouRun ⟨bin5, bouLen, bouShown :: bouCheck true true⟩ = true := by decide +kernel
def bin6 : List BinE := [⟨.gtr, 3, .atom 8, it 20, .bool false⟩, ⟨.gtr, 3, .atom 9, it 20, .bool false⟩, ⟨.gtr, 3, .atom 3, it 10, .bool false⟩, ⟨.gtr, 3, .atom 6, it 10, .bool false⟩, ⟨.lss, 3, .atom 7, it 0, .bool false⟩, ⟨.gtr, 3, .atom 7, it 10, .bool true⟩]
set_option maxRecDepth 1000000 in
theorem run_early6 : bouRun ⟨bin6, bouLen, bouShown :: bouCheck true true⟩ = true := by decide +kernel
def bin7 : List BinE := [⟨.gtr, 3, .atom 8, it 20, .bool false⟩, ⟨.gtr, 3, .atom 9, it 20, .bool false⟩, ⟨.gtr, 3, .atom 3, it 10, .bool false⟩, ⟨.gtr, 3, .atom 6, it 10, .bool false⟩, ⟨.lss, 3, .atom 7, it 0, .bool false⟩, ⟨.gtr, 3, .atom 7, it 10, .bool false⟩, ⟨.eql, 9, .atom 5, .str [48], .bool true⟩]
set_option maxRecDepth 1000000 in
theorem run_early7 : bouRun ⟨bin7, bouLen, bouShown :: bouCheck true true⟩ = true := by decide +kernel
set_option maxRecDepth 1000000 in
theorem run_yes : ∀ g h : Bool, bouRun ⟨bouBin false false false false false false false ++ bouYes, bouLen, bouShown :: (bouCheck true true ++ bouA g h)⟩ = true := by
  intro g h
  cases g <;> cases h <;> decide +kernel
def env9 (n : Bool) (s : ByteArray) (S : Int) (m : Bool) (t : ByteArray) (U : Int) (K : Int) : List Value := [.bool n, .string s, .int .i64 S, .bool m, .string t, .int .i64 U, .int .i64 K, .int .i64 (s.size : Int), .int .i64 (t.size : Int)]
section
variable {n : Bool} {s : ByteArray} {S : Int} {m : Bool} {t : ByteArray} {U : Int} {K : Int} {M : Int} {r : List Value}
theorem len_ok : AllL Tryz.prog (envE (.int .i64 M :: (env9 n s S m t U K ++ r))) bouLen :=
  ⟨sym_len (s := s) Tryz.underlying9 (fun _ => rfl) (fun _ => rfl) rfl, sym_len (s := t) Tryz.underlying9 (fun _ => rfl) (fun _ => rfl) rfl, trivial⟩
theorem shown_ok {E : Nat → Value} : CallE.Ok Tryz.prog E Good bouShown := ⟨rfl, ⟨_, Tryz.func8, by kernel_rfl, by kernel_rfl⟩, fun L w hG => shown_true w hG⟩
theorem check_ok (h1 : s.size ≤ maxLen) (h2 : t.size ≤ maxLen) {q1 q2 : Bool} (k1 : okB n s S = q1) (k2 : okB m t U = q2) : AllC Tryz.prog (envE (.int .i64 M :: (env9 n s S m t U K ++ r))) Good (bouCheck q1 q2) :=
  ⟨⟨rfl, ⟨_, Tryz.func13, by kernel_rfl, by kernel_rfl⟩, fun L w hG => by have := pcheck_any n s S (size_cap h1) w; rw [ck_is, k1] at this; exact this⟩,
    ⟨rfl, ⟨_, Tryz.func13, by kernel_rfl, by kernel_rfl⟩, fun L w hG => by have := pcheck_any m t U (size_cap h2) w; rw [ck_is, k2] at this; exact this⟩, trivial⟩
theorem bin_ok1 (t1 : decide (20 < (s.size : Int)) = true) : AllB Tryz.prog (envE (.int .i64 M :: (env9 n s S m t U K ++ r))) bin1 :=
  ⟨sym_cmp (k := .i64) (a := s.size) (b := 20) (c := true) (fun _ => rfl) (fun _ => rfl) (fun _ => rfl) rfl (.inl ⟨rfl, t1⟩), trivial⟩
theorem bin_ok2 (t1 : decide (20 < (s.size : Int)) = false) (t2 : decide (20 < (t.size : Int)) = true) : AllB Tryz.prog (envE (.int .i64 M :: (env9 n s S m t U K ++ r))) bin2 :=
  ⟨sym_cmp (k := .i64) (a := s.size) (b := 20) (c := false) (fun _ => rfl) (fun _ => rfl) (fun _ => rfl) rfl (.inl ⟨rfl, t1⟩), sym_cmp (k := .i64) (a := t.size) (b := 20) (c := true) (fun _ => rfl) (fun _ => rfl) (fun _ => rfl) rfl (.inl ⟨rfl, t2⟩), trivial⟩
theorem bin_ok3 (t1 : decide (20 < (s.size : Int)) = false) (t2 : decide (20 < (t.size : Int)) = false) (t3 : decide (10 < S) = true) : AllB Tryz.prog (envE (.int .i64 M :: (env9 n s S m t U K ++ r))) bin3 :=
  ⟨sym_cmp (k := .i64) (a := s.size) (b := 20) (c := false) (fun _ => rfl) (fun _ => rfl) (fun _ => rfl) rfl (.inl ⟨rfl, t1⟩), sym_cmp (k := .i64) (a := t.size) (b := 20) (c := false) (fun _ => rfl) (fun _ => rfl) (fun _ => rfl) rfl (.inl ⟨rfl, t2⟩), sym_cmp (k := .i64) (a := S) (b := 10) (c := true) (fun _ => rfl) (fun _ => rfl) (fun _ => rfl) rfl (.inl ⟨rfl, t3⟩), trivial⟩
theorem bin_ok4 (t1 : decide (20 < (s.size : Int)) = false) (t2 : decide (20 < (t.size : Int)) = false) (t3 : decide (10 < S) = false) (t4 : decide (10 < U) = true) : AllB Tryz.prog (envE (.int .i64 M :: (env9 n s S m t U K ++ r))) bin4 :=
  ⟨sym_cmp (k := .i64) (a := s.size) (b := 20) (c := false) (fun _ => rfl) (fun _ => rfl) (fun _ => rfl) rfl (.inl ⟨rfl, t1⟩), sym_cmp (k := .i64) (a := t.size) (b := 20) (c := false) (fun _ => rfl) (fun _ => rfl) (fun _ => rfl) rfl (.inl ⟨rfl, t2⟩), sym_cmp (k := .i64) (a := S) (b := 10) (c := false) (fun _ => rfl) (fun _ => rfl) (fun _ => rfl) rfl (.inl ⟨rfl, t3⟩), sym_cmp (k := .i64) (a := U) (b := 10) (c := true) (fun _ => rfl) (fun _ => rfl) (fun _ => rfl) rfl (.inl ⟨rfl, t4⟩), trivial⟩
theorem bin_ok5 (t1 : decide (20 < (s.size : Int)) = false) (t2 : decide (20 < (t.size : Int)) = false) (t3 : decide (10 < S) = false) (t4 : decide (10 < U) = false) (t5 : decide (K < 0) = true) : AllB Tryz.prog (envE (.int .i64 M :: (env9 n s S m t U K ++ r))) bin5 :=
  ⟨sym_cmp (k := .i64) (a := s.size) (b := 20) (c := false) (fun _ => rfl) (fun _ => rfl) (fun _ => rfl) rfl (.inl ⟨rfl, t1⟩), sym_cmp (k := .i64) (a := t.size) (b := 20) (c := false) (fun _ => rfl) (fun _ => rfl) (fun _ => rfl) rfl (.inl ⟨rfl, t2⟩), sym_cmp (k := .i64) (a := S) (b := 10) (c := false) (fun _ => rfl) (fun _ => rfl) (fun _ => rfl) rfl (.inl ⟨rfl, t3⟩), sym_cmp (k := .i64) (a := U) (b := 10) (c := false) (fun _ => rfl) (fun _ => rfl) (fun _ => rfl) rfl (.inl ⟨rfl, t4⟩), sym_cmp (k := .i64) (a := K) (b := 0) (c := true) (fun _ => rfl) (fun _ => rfl) (fun _ => rfl) rfl (.inr (.inl ⟨rfl, t5⟩)), trivial⟩
theorem bin_ok6 (t1 : decide (20 < (s.size : Int)) = false) (t2 : decide (20 < (t.size : Int)) = false) (t3 : decide (10 < S) = false) (t4 : decide (10 < U) = false) (t5 : decide (K < 0) = false) (t6 : decide (10 < K) = true) : AllB Tryz.prog (envE (.int .i64 M :: (env9 n s S m t U K ++ r))) bin6 :=
  ⟨sym_cmp (k := .i64) (a := s.size) (b := 20) (c := false) (fun _ => rfl) (fun _ => rfl) (fun _ => rfl) rfl (.inl ⟨rfl, t1⟩), sym_cmp (k := .i64) (a := t.size) (b := 20) (c := false) (fun _ => rfl) (fun _ => rfl) (fun _ => rfl) rfl (.inl ⟨rfl, t2⟩), sym_cmp (k := .i64) (a := S) (b := 10) (c := false) (fun _ => rfl) (fun _ => rfl) (fun _ => rfl) rfl (.inl ⟨rfl, t3⟩), sym_cmp (k := .i64) (a := U) (b := 10) (c := false) (fun _ => rfl) (fun _ => rfl) (fun _ => rfl) rfl (.inl ⟨rfl, t4⟩), sym_cmp (k := .i64) (a := K) (b := 0) (c := false) (fun _ => rfl) (fun _ => rfl) (fun _ => rfl) rfl (.inr (.inl ⟨rfl, t5⟩)), sym_cmp (k := .i64) (a := K) (b := 10) (c := true) (fun _ => rfl) (fun _ => rfl) (fun _ => rfl) rfl (.inl ⟨rfl, t6⟩), trivial⟩
theorem bin_ok7 (t1 : decide (20 < (s.size : Int)) = false) (t2 : decide (20 < (t.size : Int)) = false) (t3 : decide (10 < S) = false) (t4 : decide (10 < U) = false) (t5 : decide (K < 0) = false) (t6 : decide (10 < K) = false) (t7 : (t.toList == [48]) = true) : AllB Tryz.prog (envE (.int .i64 M :: (env9 n s S m t U K ++ r))) bin7 :=
  ⟨sym_cmp (k := .i64) (a := s.size) (b := 20) (c := false) (fun _ => rfl) (fun _ => rfl) (fun _ => rfl) rfl (.inl ⟨rfl, t1⟩), sym_cmp (k := .i64) (a := t.size) (b := 20) (c := false) (fun _ => rfl) (fun _ => rfl) (fun _ => rfl) rfl (.inl ⟨rfl, t2⟩), sym_cmp (k := .i64) (a := S) (b := 10) (c := false) (fun _ => rfl) (fun _ => rfl) (fun _ => rfl) rfl (.inl ⟨rfl, t3⟩), sym_cmp (k := .i64) (a := U) (b := 10) (c := false) (fun _ => rfl) (fun _ => rfl) (fun _ => rfl) rfl (.inl ⟨rfl, t4⟩), sym_cmp (k := .i64) (a := K) (b := 0) (c := false) (fun _ => rfl) (fun _ => rfl) (fun _ => rfl) rfl (.inr (.inl ⟨rfl, t5⟩)), sym_cmp (k := .i64) (a := K) (b := 10) (c := false) (fun _ => rfl) (fun _ => rfl) (fun _ => rfl) rfl (.inl ⟨rfl, t6⟩), sym_str (a := t) (b := ⟨#[48]⟩) (c := true) (fun _ => rfl) (fun _ => rfl) (fun _ => rfl) rfl (by rw [show (⟨#[48]⟩ : ByteArray).toList = [48] by rw [ByteArray.toList_eq]]; exact t7), trivial⟩
theorem bin_ok (t1 : decide (20 < (s.size : Int)) = false) (t2 : decide (20 < (t.size : Int)) = false) (t3 : decide (10 < S) = false) (t4 : decide (10 < U) = false) (t5 : decide (K < 0) = false) (t6 : decide (10 < K) = false) (t7 : (t.toList == [48]) = false) : AllB Tryz.prog (envE (.int .i64 M :: (env9 n s S m t U K ++ r))) (bouBin false false false false false false false) :=
  ⟨sym_cmp (k := .i64) (a := s.size) (b := 20) (c := false) (fun _ => rfl) (fun _ => rfl) (fun _ => rfl) rfl (.inl ⟨rfl, t1⟩), sym_cmp (k := .i64) (a := t.size) (b := 20) (c := false) (fun _ => rfl) (fun _ => rfl) (fun _ => rfl) rfl (.inl ⟨rfl, t2⟩), sym_cmp (k := .i64) (a := S) (b := 10) (c := false) (fun _ => rfl) (fun _ => rfl) (fun _ => rfl) rfl (.inl ⟨rfl, t3⟩), sym_cmp (k := .i64) (a := U) (b := 10) (c := false) (fun _ => rfl) (fun _ => rfl) (fun _ => rfl) rfl (.inl ⟨rfl, t4⟩), sym_cmp (k := .i64) (a := K) (b := 0) (c := false) (fun _ => rfl) (fun _ => rfl) (fun _ => rfl) rfl (.inr (.inl ⟨rfl, t5⟩)), sym_cmp (k := .i64) (a := K) (b := 10) (c := false) (fun _ => rfl) (fun _ => rfl) (fun _ => rfl) rfl (.inl ⟨rfl, t6⟩), sym_str (a := t) (b := ⟨#[48]⟩) (c := false) (fun _ => rfl) (fun _ => rfl) (fun _ => rfl) rfl (by rw [show (⟨#[48]⟩ : ByteArray).toList = [48] by rw [ByteArray.toList_eq]]; exact t7), trivial⟩
end
set_option maxRecDepth 100000 in
theorem bounds_bad (n : Bool) (s : ByteArray) (S : Int) (m : Bool) (t : ByteArray) (U : Int) (K : Int) (h1 : s.size ≤ maxLen) (h2 : t.size ≤ maxLen) (k : (okB n s S && okB m t U) = false) (w : World) (M : Int) (hV : Vars M w) : Calls Tryz.prog 6 #[.agg #[.bool n, .string s, .int .i64 S], .agg #[.bool m, .string t, .int .i64 U], .int .i64 K] w fun e w' => e = .returned (.bool true) ∧ Below w.heap.size w w' := by
  have hr := run_bad (okB n s S) (okB m t U) k
  have hy : SymF.Ok Tryz.prog (envE (.int .i64 M :: (env9 n s S m t U K ++ []))) Good ⟨[], [], bouShown :: bouCheck (okB n s S) (okB m t U)⟩ := ⟨trivial, trivial, ⟨shown_ok, check_ok h1 h2 rfl rfl⟩⟩
  have hl := law_run hy rfl hr rfl hV
  exact hl
set_option maxRecDepth 100000 in
theorem bounds_early1 (n : Bool) (s : ByteArray) (S : Int) (m : Bool) (t : ByteArray) (U : Int) (K : Int) (h1 : s.size ≤ maxLen) (h2 : t.size ≤ maxLen) (k1 : okB n s S = true) (k2 : okB m t U = true) (t1 : decide (20 < (s.size : Int)) = true) (w : World) (M : Int) (hV : Vars M w) : Calls Tryz.prog 6 #[.agg #[.bool n, .string s, .int .i64 S], .agg #[.bool m, .string t, .int .i64 U], .int .i64 K] w fun e w' => e = .returned (.bool true) ∧ Below w.heap.size w w' := by
  have hr := run_early1
  have hy : SymF.Ok Tryz.prog (envE (.int .i64 M :: (env9 n s S m t U K ++ []))) Good ⟨bin1, bouLen, bouShown :: bouCheck true true⟩ := ⟨bin_ok1 t1, len_ok, ⟨shown_ok, check_ok h1 h2 k1 k2⟩⟩
  have hl := law_run hy rfl hr rfl hV
  exact hl
set_option maxRecDepth 100000 in
theorem bounds_early2 (n : Bool) (s : ByteArray) (S : Int) (m : Bool) (t : ByteArray) (U : Int) (K : Int) (h1 : s.size ≤ maxLen) (h2 : t.size ≤ maxLen) (k1 : okB n s S = true) (k2 : okB m t U = true) (t1 : decide (20 < (s.size : Int)) = false) (t2 : decide (20 < (t.size : Int)) = true) (w : World) (M : Int) (hV : Vars M w) : Calls Tryz.prog 6 #[.agg #[.bool n, .string s, .int .i64 S], .agg #[.bool m, .string t, .int .i64 U], .int .i64 K] w fun e w' => e = .returned (.bool true) ∧ Below w.heap.size w w' := by
  have hr := run_early2
  have hy : SymF.Ok Tryz.prog (envE (.int .i64 M :: (env9 n s S m t U K ++ []))) Good ⟨bin2, bouLen, bouShown :: bouCheck true true⟩ := ⟨bin_ok2 t1 t2, len_ok, ⟨shown_ok, check_ok h1 h2 k1 k2⟩⟩
  have hl := law_run hy rfl hr rfl hV
  exact hl
set_option maxRecDepth 100000 in
theorem bounds_early3 (n : Bool) (s : ByteArray) (S : Int) (m : Bool) (t : ByteArray) (U : Int) (K : Int) (h1 : s.size ≤ maxLen) (h2 : t.size ≤ maxLen) (k1 : okB n s S = true) (k2 : okB m t U = true) (t1 : decide (20 < (s.size : Int)) = false) (t2 : decide (20 < (t.size : Int)) = false) (t3 : decide (10 < S) = true) (w : World) (M : Int) (hV : Vars M w) : Calls Tryz.prog 6 #[.agg #[.bool n, .string s, .int .i64 S], .agg #[.bool m, .string t, .int .i64 U], .int .i64 K] w fun e w' => e = .returned (.bool true) ∧ Below w.heap.size w w' := by
  have hr := run_early3
  have hy : SymF.Ok Tryz.prog (envE (.int .i64 M :: (env9 n s S m t U K ++ []))) Good ⟨bin3, bouLen, bouShown :: bouCheck true true⟩ := ⟨bin_ok3 t1 t2 t3, len_ok, ⟨shown_ok, check_ok h1 h2 k1 k2⟩⟩
  have hl := law_run hy rfl hr rfl hV
  exact hl
set_option maxRecDepth 100000 in
theorem bounds_early4 (n : Bool) (s : ByteArray) (S : Int) (m : Bool) (t : ByteArray) (U : Int) (K : Int) (h1 : s.size ≤ maxLen) (h2 : t.size ≤ maxLen) (k1 : okB n s S = true) (k2 : okB m t U = true) (t1 : decide (20 < (s.size : Int)) = false) (t2 : decide (20 < (t.size : Int)) = false) (t3 : decide (10 < S) = false) (t4 : decide (10 < U) = true) (w : World) (M : Int) (hV : Vars M w) : Calls Tryz.prog 6 #[.agg #[.bool n, .string s, .int .i64 S], .agg #[.bool m, .string t, .int .i64 U], .int .i64 K] w fun e w' => e = .returned (.bool true) ∧ Below w.heap.size w w' := by
  have hr := run_early4
  have hy : SymF.Ok Tryz.prog (envE (.int .i64 M :: (env9 n s S m t U K ++ []))) Good ⟨bin4, bouLen, bouShown :: bouCheck true true⟩ := ⟨bin_ok4 t1 t2 t3 t4, len_ok, ⟨shown_ok, check_ok h1 h2 k1 k2⟩⟩
  have hl := law_run hy rfl hr rfl hV
  exact hl
set_option maxRecDepth 100000 in
theorem bounds_early5 (n : Bool) (s : ByteArray) (S : Int) (m : Bool) (t : ByteArray) (U : Int) (K : Int) (h1 : s.size ≤ maxLen) (h2 : t.size ≤ maxLen) (k1 : okB n s S = true) (k2 : okB m t U = true) (t1 : decide (20 < (s.size : Int)) = false) (t2 : decide (20 < (t.size : Int)) = false) (t3 : decide (10 < S) = false) (t4 : decide (10 < U) = false) (t5 : decide (K < 0) = true) (w : World) (M : Int) (hV : Vars M w) : Calls Tryz.prog 6 #[.agg #[.bool n, .string s, .int .i64 S], .agg #[.bool m, .string t, .int .i64 U], .int .i64 K] w fun e w' => e = .returned (.bool true) ∧ Below w.heap.size w w' := by
  have hr := run_early5
  have hy : SymF.Ok Tryz.prog (envE (.int .i64 M :: (env9 n s S m t U K ++ []))) Good ⟨bin5, bouLen, bouShown :: bouCheck true true⟩ := ⟨bin_ok5 t1 t2 t3 t4 t5, len_ok, ⟨shown_ok, check_ok h1 h2 k1 k2⟩⟩
  have hl := law_run hy rfl hr rfl hV
  exact hl
set_option maxRecDepth 100000 in
theorem bounds_early6 (n : Bool) (s : ByteArray) (S : Int) (m : Bool) (t : ByteArray) (U : Int) (K : Int) (h1 : s.size ≤ maxLen) (h2 : t.size ≤ maxLen) (k1 : okB n s S = true) (k2 : okB m t U = true) (t1 : decide (20 < (s.size : Int)) = false) (t2 : decide (20 < (t.size : Int)) = false) (t3 : decide (10 < S) = false) (t4 : decide (10 < U) = false) (t5 : decide (K < 0) = false) (t6 : decide (10 < K) = true) (w : World) (M : Int) (hV : Vars M w) : Calls Tryz.prog 6 #[.agg #[.bool n, .string s, .int .i64 S], .agg #[.bool m, .string t, .int .i64 U], .int .i64 K] w fun e w' => e = .returned (.bool true) ∧ Below w.heap.size w w' := by
  have hr := run_early6
  have hy : SymF.Ok Tryz.prog (envE (.int .i64 M :: (env9 n s S m t U K ++ []))) Good ⟨bin6, bouLen, bouShown :: bouCheck true true⟩ := ⟨bin_ok6 t1 t2 t3 t4 t5 t6, len_ok, ⟨shown_ok, check_ok h1 h2 k1 k2⟩⟩
  have hl := law_run hy rfl hr rfl hV
  exact hl
set_option maxRecDepth 100000 in
theorem bounds_early7 (n : Bool) (s : ByteArray) (S : Int) (m : Bool) (t : ByteArray) (U : Int) (K : Int) (h1 : s.size ≤ maxLen) (h2 : t.size ≤ maxLen) (k1 : okB n s S = true) (k2 : okB m t U = true) (t1 : decide (20 < (s.size : Int)) = false) (t2 : decide (20 < (t.size : Int)) = false) (t3 : decide (10 < S) = false) (t4 : decide (10 < U) = false) (t5 : decide (K < 0) = false) (t6 : decide (10 < K) = false) (t7 : (t.toList == [48]) = true) (w : World) (M : Int) (hV : Vars M w) : Calls Tryz.prog 6 #[.agg #[.bool n, .string s, .int .i64 S], .agg #[.bool m, .string t, .int .i64 U], .int .i64 K] w fun e w' => e = .returned (.bool true) ∧ Below w.heap.size w w' := by
  have hr := run_early7
  have hy : SymF.Ok Tryz.prog (envE (.int .i64 M :: (env9 n s S m t U K ++ []))) Good ⟨bin7, bouLen, bouShown :: bouCheck true true⟩ := ⟨bin_ok7 t1 t2 t3 t4 t5 t6 t7, len_ok, ⟨shown_ok, check_ok h1 h2 k1 k2⟩⟩
  have hl := law_run hy rfl hr rfl hV
  exact hl
def envB (n1 : Bool) (s1 : ByteArray) (S1 : Int) (n2 : Bool) (s2 : ByteArray) (S2 : Int) (n3 : Bool) (s3 : ByteArray) (S3 : Int) (n4 : Bool) (s4 : ByteArray) (S4 : Int) (n5 : Bool) (s5 : ByteArray) (S5 : Int) (n6 : Bool) (s6 : ByteArray) (S6 : Int) (n7 : Bool) (s7 : ByteArray) (S7 : Int) : List Value := [.bool n1, .string s1, .int .i64 S1, .bool n2, .string s2, .int .i64 S2, .bool n3, .string s3, .int .i64 S3, .bool n4, .string s4, .int .i64 S4, .bool n5, .string s5, .int .i64 S5, .bool n6, .string s6, .int .i64 S6, .bool n7, .string s7, .int .i64 S7]
def resD (x : Dc.D) : Res := ⟨x.1, str (Dc.digs x.2.1), (x.2.2 : Int), 0⟩
section
variable {n : Bool} {s : ByteArray} {S : Int} {m : Bool} {t : ByteArray} {U : Int} {K : Int} {M : Int} {n1 : Bool} {s1 : ByteArray} {S1 : Int} {n2 : Bool} {s2 : ByteArray} {S2 : Int} {n3 : Bool} {s3 : ByteArray} {S3 : Int} {n4 : Bool} {s4 : ByteArray} {S4 : Int} {n5 : Bool} {s5 : ByteArray} {S5 : Int} {n6 : Bool} {s6 : ByteArray} {S6 : Int} {n7 : Bool} {s7 : ByteArray} {S7 : Int}
theorem yes_ok (h1 : decide (K < S1) = false) (h2 : decide (S5 ≤ K) = true) : AllB Tryz.prog (envE (.int .i64 M :: (env9 n s S m t U K ++ envB n1 s1 S1 n2 s2 S2 n3 s3 S3 n4 s4 S4 n5 s5 S5 n6 s6 S6 n7 s7 S7))) bouYes :=
  ⟨sym_cmp (k := .i64) (a := S1) (b := K) (c := false) (fun _ => rfl) (fun _ => rfl) (fun _ => rfl) rfl (.inl ⟨rfl, h1⟩), sym_cmp (k := .i64) (a := S5) (b := K) (c := true) (fun _ => rfl) (fun _ => rfl) (fun _ => rfl) rfl (.inr (.inr (.inl ⟨rfl, h2⟩))), trivial⟩
theorem a_ok {g h : Bool} (z0 : s.size ≤ 400) (z00 : t.size ≤ 400) (z1 : s1.size ≤ 400) (z2 : s2.size ≤ 400) (z3 : s3.size ≤ 400) (z4 : s4.size ≤ 400) (z5 : s5.size ≤ 400) (z6 : s6.size ≤ 400) (z7 : s7.size ≤ 400)
    (e1 : divR n s S m t U K = ⟨n1, s1, S1, 0⟩) (e2 : twoR Dc.mulD n1 s1 S1 m t U = ⟨n2, s2, S2, 0⟩) (e3 : twoR Dc.subD n s S n2 s2 S2 = ⟨n3, s3, S3, 0⟩) (e4 : twoR Dc.mulD m t U false ⟨#[49]⟩ K = ⟨n4, s4, S4, 0⟩)
    (c1 : cmpR false s2 S2 false s S = (le g, 0)) (c2 : cmpR false s3 S3 false s4 S4 = (-1, 0)) (e5 : roundR n s S K = ⟨n5, s5, S5, 0⟩) (e6 : twoR Dc.subD n s S n5 s5 S5 = ⟨n6, s6, S6, 0⟩) (e7 : twoR Dc.addD n6 s6 S6 n6 s6 S6 = ⟨n7, s7, S7, 0⟩) (c3 : cmpR false s7 S7 false ⟨#[49]⟩ K = (le h, 0)) :
    AllC Tryz.prog (envE (.int .i64 M :: (env9 n s S m t U K ++ envB n1 s1 S1 n2 s2 S2 n3 s3 S3 n4 s4 S4 n5 s5 S5 n6 s6 S6 n7 s7 S7))) Good (bouA g h) :=
  have zu : (⟨#[49]⟩ : ByteArray).size ≤ 1000000 := by decide
  ⟨⟨rfl, ⟨_, Tryz.func17, by kernel_rfl, by kernel_rfl⟩, fun L w hG => pdiv_is n s S m t U K (by omega) (by omega) ⟨n1, s1, S1, 0⟩ e1 w hG.pow⟩,
    ⟨rfl, ⟨_, Tryz.func24, by kernel_rfl, by kernel_rfl⟩, fun L w hG => pmul_is n1 s1 S1 m t U (by omega) (by omega) ⟨n2, s2, S2, 0⟩ e2 w hG.pow⟩,
    ⟨rfl, ⟨_, Tryz.func25, by kernel_rfl, by kernel_rfl⟩, fun L w hG => psub_is n s S n2 s2 S2 (by omega) (by omega) ⟨n3, s3, S3, 0⟩ e3 w hG.pow⟩,
    ⟨rfl, ⟨_, Tryz.func24, by kernel_rfl, by kernel_rfl⟩, fun L w hG => pmul_is m t U false ⟨#[49]⟩ K (by omega) zu ⟨n4, s4, S4, 0⟩ e4 w hG.pow⟩,
    ⟨rfl, ⟨_, Tryz.func26, by kernel_rfl, by kernel_rfl⟩, fun L w hG => pcmp_is false s2 S2 false s S (by omega) (by omega) (le g) 0 c1 w⟩,
    ⟨rfl, ⟨_, Tryz.func26, by kernel_rfl, by kernel_rfl⟩, fun L w hG => pcmp_is false s3 S3 false s4 S4 (by omega) (by omega) (-1) 0 c2 w⟩,
    ⟨rfl, ⟨_, Tryz.func19, by kernel_rfl, by kernel_rfl⟩, fun L w hG => pround_is n s S K (by omega) ⟨n5, s5, S5, 0⟩ e5 w hG.pow⟩,
    ⟨rfl, ⟨_, Tryz.func25, by kernel_rfl, by kernel_rfl⟩, fun L w hG => psub_is n s S n5 s5 S5 (by omega) (by omega) ⟨n6, s6, S6, 0⟩ e6 w hG.pow⟩,
    ⟨rfl, ⟨_, Tryz.func23, by kernel_rfl, by kernel_rfl⟩, fun L w hG => padd_is n6 s6 S6 n6 s6 S6 (by omega) (by omega) ⟨n7, s7, S7, 0⟩ e7 w hG.pow⟩,
    ⟨rfl, ⟨_, Tryz.func26, by kernel_rfl, by kernel_rfl⟩, fun L w hG => pcmp_is false s7 S7 false ⟨#[49]⟩ K (by omega) zu (le h) 0 c3 w⟩, trivial⟩
end
theorem ok_size' {a : Dc.D} (h : Dc.ok a) : (str (Dc.digs a.2.1)).size ≤ 400 := by
  have h1 : (Dc.digs a.2.1).length ≤ 60 := h.1
  rw [str_size]
  omega
theorem abs_okB {a : Dc.D} (h : Dc.ok a) : okB false (str (Dc.digs a.2.1)) (a.2.2 : Int) = true := ok_okB (Dc.absD_ok h)
theorem abs_raw {a : Dc.D} : rawD false (str (Dc.digs a.2.1)) (a.2.2 : Int) = Dc.absD a := raw_of (a := Dc.absD a)
theorem raw_abs {n : Bool} {s : ByteArray} {S : Int} : rawD false s S = Dc.absD (rawD n s S) := rfl
theorem okB_abs {n : Bool} {s : ByteArray} {S : Int} (h : okB n s S = true) : okB false s S = true := by
  have k := okB_ok h
  have := abs_okB k.can
  rw [show str (Dc.digs (rawD n s S).2.1) = s from congrArg Res.s (raw_res k n), show ((rawD n s S).2.2 : Int) = S from congrArg Res.S (raw_res k n)] at this
  exact this
theorem unit_ok {K : Int} (h0 : 0 ≤ K) (h1 : K ≤ 10) : okB false ⟨#[49]⟩ K = true := by
  have h : Dc.ok (false, 1, K.toNat) := ⟨by show (Dc.digs 1).length ≤ 60; rw [Dc.digs_low (by decide)]; decide, by show K.toNat ≤ 60; omega, fun h => (by cases h), .inr (show 1 % 10 ≠ 0 by decide)⟩
  have h := ok_okB h
  simp only [Dc.digs_low (show 1 < 10 by decide), Int.toNat_of_nonneg h0] at h
  exact h
theorem unit_raw (K : Int) : rawD false ⟨#[49]⟩ K = (false, 1, K.toNat) := rfl
set_option maxRecDepth 100000 in
theorem bounds_any (n : Bool) (s : ByteArray) (S : Int) (m : Bool) (t : ByteArray) (U : Int) (K : Int) (h1 : s.size ≤ maxLen) (h2 : t.size ≤ maxLen) (w : World) (M : Int) (hV : Vars M w) : Calls Tryz.prog 6 #[.agg #[.bool n, .string s, .int .i64 S], .agg #[.bool m, .string t, .int .i64 U], .int .i64 K] w fun e w' => e = .returned (.bool true) ∧ Below w.heap.size w w' := by
  cases k : okB n s S && okB m t U with
  | false => exact bounds_bad n s S m t U K h1 h2 k w M hV
  | true =>
  simp only [Bool.and_eq_true] at k
  obtain ⟨k1, k2⟩ := k
  cases t1 : decide (20 < (s.size : Int)) with
  | true => exact bounds_early1 n s S m t U K h1 h2 k1 k2 t1 w M hV
  | false =>
  cases t2 : decide (20 < (t.size : Int)) with
  | true => exact bounds_early2 n s S m t U K h1 h2 k1 k2 t1 t2 w M hV
  | false =>
  cases t3 : decide (10 < S) with
  | true => exact bounds_early3 n s S m t U K h1 h2 k1 k2 t1 t2 t3 w M hV
  | false =>
  cases t4 : decide (10 < U) with
  | true => exact bounds_early4 n s S m t U K h1 h2 k1 k2 t1 t2 t3 t4 w M hV
  | false =>
  cases t5 : decide (K < 0) with
  | true => exact bounds_early5 n s S m t U K h1 h2 k1 k2 t1 t2 t3 t4 t5 w M hV
  | false =>
  cases t6 : decide (10 < K) with
  | true => exact bounds_early6 n s S m t U K h1 h2 k1 k2 t1 t2 t3 t4 t5 t6 w M hV
  | false =>
  cases t7 : t.toList == [48] with
  | true => exact bounds_early7 n s S m t U K h1 h2 k1 k2 t1 t2 t3 t4 t5 t6 t7 w M hV
  | false =>
  have B := fun r => bin_ok (n := n) (s := s) (S := S) (m := m) (t := t) (U := U) (K := K) (M := M) (r := r) t1 t2 t3 t4 t5 t6 t7
  have u1 := of_decide_eq_false t1
  have u2 := of_decide_eq_false t2
  have u3 := of_decide_eq_false t3
  have u4 := of_decide_eq_false t4
  have u5 := of_decide_eq_false t5
  have u6 := of_decide_eq_false t6
  have o1 := okB_ok k1
  have o2 := okB_ok k2
  have hne : bts t ≠ [48] := fun h => by rw [word_beq, h] at t7; cases t7
  have la : (rawD n s S).2.1 < 10 ^ 20 := Nat.lt_of_lt_of_le (Dc.val_lt o1.dig.all) (Nat.pow_le_pow_right (by decide) (by rw [bts_length]; omega))
  have lb : (rawD m t U).2.1 < 10 ^ 20 := Nat.lt_of_lt_of_le (Dc.val_lt o2.dig.all) (Nat.pow_le_pow_right (by decide) (by rw [bts_length]; omega))
  have hb0 : (rawD m t U).2.1 ≠ 0 := fun h => hne (by rw [o2.eq, show Dc.val (bts t) = 0 from h]; rfl)
  have sa : (rawD n s S).2.2 ≤ 10 := by show S.toNat ≤ 10; omega
  have sb : (rawD m t U).2.2 ≤ 10 := by show U.toNat ≤ 10; omega
  have sk : K.toNat ≤ 10 := by omega
  have ku := unit_ok (K := K) (by omega) (by omega)
  have hK : ((K.toNat : Nat) : Int) = K := Int.toNat_of_nonneg (by omega)
  obtain ⟨q, p, rest, small, e1, e2, e3, e4, c1, c2, hq, oq, op, orest, osmall⟩ := Dc.div_bounds (a := rawD n s S) (b := rawD m t U) (sc := K.toNat) la sa sb sk lb hb0
  obtain ⟨r, rest2, twice, e5, e6, e7, hr, c3, or, orest2, otwice⟩ := Dc.round_bounds (a := rawD n s S) (sc := K.toNat) o1.can la sa sk
  obtain ⟨g, hg⟩ : ∃ g, Dc.cmpD (Dc.absD p) (Dc.absD (rawD n s S)) = le g := c1.elim (fun h => ⟨true, h⟩) (fun h => ⟨false, h⟩)
  obtain ⟨h, hh⟩ : ∃ h, Dc.cmpD (Dc.absD twice) (false, 1, K.toNat) = le h := c3.elim (fun h => ⟨true, h⟩) (fun h => ⟨false, h⟩)
  have f1 : divR n s S m t U K = resD q := by unfold divR; rw [if_pos ⟨k1, k2, hne, by omega, by omega⟩, e1]; rfl
  have f2 : twoR Dc.mulD (resD q).n (resD q).s (resD q).S m t U = resD p := by rw [show (resD q).n = q.1 from rfl, show (resD q).s = str (Dc.digs q.2.1) from rfl, show (resD q).S = (q.2.2 : Int) from rfl, two_yes (ok_okB oq) k2, raw_of, e2]; rfl
  have f3 : twoR Dc.subD n s S (resD p).n (resD p).s (resD p).S = resD rest := by rw [show (resD p).n = p.1 from rfl, show (resD p).s = str (Dc.digs p.2.1) from rfl, show (resD p).S = (p.2.2 : Int) from rfl, two_yes k1 (ok_okB op), raw_of, e3]; rfl
  have f4 : twoR Dc.mulD m t U false ⟨#[49]⟩ K = resD small := by rw [two_yes k2 ku, unit_raw, e4]; rfl
  have g1 : cmpR false (resD p).s (resD p).S false s S = (le g, 0) := by unfold cmpR; rw [if_pos ⟨abs_okB op, okB_abs k1⟩, ← hg]; congr 1; exact congr (congrArg Dc.cmpD abs_raw) rfl
  have g2 : cmpR false (resD rest).s (resD rest).S false (resD small).s (resD small).S = (-1, 0) := by unfold cmpR; rw [if_pos ⟨abs_okB orest, abs_okB osmall⟩, ← c2]; congr 1; exact congr (congrArg Dc.cmpD abs_raw) abs_raw
  have f5 : roundR n s S K = resD r := by unfold roundR; rw [if_pos ⟨k1, by omega, by omega⟩, e5]; rfl
  have f6 : twoR Dc.subD n s S (resD r).n (resD r).s (resD r).S = resD rest2 := by rw [show (resD r).n = r.1 from rfl, show (resD r).s = str (Dc.digs r.2.1) from rfl, show (resD r).S = (r.2.2 : Int) from rfl, two_yes k1 (ok_okB or), raw_of, e6]; rfl
  have f7 : twoR Dc.addD (resD rest2).n (resD rest2).s (resD rest2).S (resD rest2).n (resD rest2).s (resD rest2).S = resD twice := by rw [show (resD rest2).n = rest2.1 from rfl, show (resD rest2).s = str (Dc.digs rest2.2.1) from rfl, show (resD rest2).S = (rest2.2.2 : Int) from rfl, two_yes (ok_okB orest2) (ok_okB orest2), raw_of, e7]; rfl
  have g3 : cmpR false (resD twice).s (resD twice).S false ⟨#[49]⟩ K = (le h, 0) := by unfold cmpR; rw [if_pos ⟨abs_okB otwice, ku⟩, ← hh]; congr 1; exact congr (congrArg Dc.cmpD abs_raw) rfl
  have y1 : decide (K < (resD q).S) = false := decide_eq_false (by show ¬ K < (q.2.2 : Int); omega)
  have y2 : decide ((resD r).S ≤ K) = true := decide_eq_true (by show (r.2.2 : Int) ≤ K; omega)
  have z1 : (resD q).s.size ≤ 400 := ok_size' oq
  have z2 : (resD p).s.size ≤ 400 := ok_size' op
  have z3 : (resD rest).s.size ≤ 400 := ok_size' orest
  have z4 : (resD small).s.size ≤ 400 := ok_size' osmall
  have z5 : (resD r).s.size ≤ 400 := ok_size' or
  have z6 : (resD rest2).s.size ≤ 400 := ok_size' orest2
  have z7 : (resD twice).s.size ≤ 400 := ok_size' otwice
  obtain ⟨n1, s1, S1, d1⟩ : ∃ n s S, resD q = ⟨n, s, S, 0⟩ := ⟨_, _, _, rfl⟩
  obtain ⟨n2, s2, S2, d2⟩ : ∃ n s S, resD p = ⟨n, s, S, 0⟩ := ⟨_, _, _, rfl⟩
  obtain ⟨n3, s3, S3, d3⟩ : ∃ n s S, resD rest = ⟨n, s, S, 0⟩ := ⟨_, _, _, rfl⟩
  obtain ⟨n4, s4, S4, d4⟩ : ∃ n s S, resD small = ⟨n, s, S, 0⟩ := ⟨_, _, _, rfl⟩
  obtain ⟨n5, s5, S5, d5⟩ : ∃ n s S, resD r = ⟨n, s, S, 0⟩ := ⟨_, _, _, rfl⟩
  obtain ⟨n6, s6, S6, d6⟩ : ∃ n s S, resD rest2 = ⟨n, s, S, 0⟩ := ⟨_, _, _, rfl⟩
  obtain ⟨n7, s7, S7, d7⟩ : ∃ n s S, resD twice = ⟨n, s, S, 0⟩ := ⟨_, _, _, rfl⟩
  rw [d1] at f1 f2 y1 z1
  rw [d2] at f2 f3 g1 z2
  rw [d3] at f3 g2 z3
  rw [d4] at f4 g2 z4
  rw [d5] at f5 f6 y2 z5
  rw [d6] at f6 f7 z6
  rw [d7] at f7 g3 z7
  simp only at f1 f2 f3 f4 g1 g2 f5 f6 f7 g3 y1 y2 z1 z2 z3 z4 z5 z6 z7
  have hrun := run_yes g h
  have hy : SymF.Ok Tryz.prog (envE (.int .i64 M :: (env9 n s S m t U K ++ envB n1 s1 S1 n2 s2 S2 n3 s3 S3 n4 s4 S4 n5 s5 S5 n6 s6 S6 n7 s7 S7))) Good ⟨bouBin false false false false false false false ++ bouYes, bouLen, bouShown :: (bouCheck true true ++ bouA g h)⟩ :=
    ⟨AllB_append (B _) (yes_ok y1 y2), len_ok, ⟨shown_ok, AllC_append (check_ok h1 h2 k1 k2) (a_ok (by omega) (by omega) z1 z2 z3 z4 z5 z6 z7 f1 f2 f3 f4 g1 g2 f5 f6 f7 g3)⟩⟩
  have hl := law_run hy rfl hrun rfl hV
  exact hl
end Go.Proofs.YthmmjihldkjhhaaGreatDoor.Bounds
