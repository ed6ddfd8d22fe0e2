/-
  What DecimalLaws returns: true. Condition: the variables that the program's text lays.
-/
import Derived.Test.YthmmjihldkjhhaaGreatDoorLshown
import Derived.Test.YthmmjihldkjhhaaGreatDoorPcmpd
import Derived.Test.YthmmjihldkjhhaaGreatDoorDlaws
import Derived.Test.YthmmjihldkjhhaaGreatDoorEvars
namespace Go.Proofs.YthmmjihldkjhhaaGreatDoor
open Go Go.RowKit Go.Ex

theorem txt_length (n : Bool) (l : List Nat) (S : Nat) : (Dc.txt n l S).length ≤ max (S + 1) l.length + 2 := by
  have h := Dc.wide_length l S
  unfold Dc.txt Dc.dotted
  split <;> split <;> (try simp only [List.length_cons, List.length_append, List.length_take, List.length_drop]) <;> omega
theorem txt_lt (n : Bool) {l : List Nat} (S : Nat) (h : l.all Dc.dig = true) : ∀ b ∈ Dc.txt n l S, b < 256 := by
  have hw : ∀ b ∈ Dc.wide l S, b < 256 := fun b hb => by
    have := (Dc.dig_iff.1 (List.all_eq_true.1 (Dc.wide_dig S h) b hb)).2
    omega
  have hd : ∀ b ∈ Dc.dotted l S, b < 256 := fun b hb => by
    unfold Dc.dotted at hb
    split at hb
    · exact hw b hb
    · rcases List.mem_append.1 hb with h1 | h1
      · exact hw b (List.mem_of_mem_take h1)
      · rcases List.mem_cons.1 h1 with rfl | h1
        · decide
        · exact hw b (List.mem_of_mem_drop h1)
  intro b hb
  unfold Dc.txt at hb
  split at hb
  · rcases List.mem_cons.1 hb with rfl | h1
    · decide
    · exact hd b h1
  · exact hd b hb
/-- The text of a decimal is read again as it was. -/
theorem text_back {n : Bool} {s : ByteArray} {S : Int} (h : okB n s S = true) : ∃ T : ByteArray, T.size ≤ 400 ∧ textR n s S = (T, 0) ∧ readR (bts T) = ⟨n, s, S, 0⟩ := by
  have k := okB_ok h
  refine ⟨str (Dc.txt n (bts s) S.toNat), ?_, by unfold textR; rw [if_pos h], ?_⟩
  · have h1 := txt_length n (bts s) S.toNat
    have h2 := k.size
    have h3 := k.high
    rw [str_size]
    rw [bts_length] at h1
    omega
  · rw [bts_str _ (txt_lt n S.toNat k.dig.all), k.eq]
    unfold readR
    rw [Dc.read_txt, show Dc.can n (Dc.val (bts s)) S.toNat = some (rawD n s S) from Dc.can_self k.can]
    show resOf (some (rawD n s S)) = _
    rw [raw_res k]
theorem ok_size {a : Dc.D} (h : Dc.ok a) : (str (Dc.digs a.2.1)).size ≤ 400 := by
  have h1 : (Dc.digs a.2.1).length ≤ 60 := h.1
  rw [str_size]
  omega
/-! ### What is known beforehand: atoms 1 to 9 are the arguments -/
def lawBin (b1 b2 b3 : Bool) : List BinE := [⟨.gtr, 3, .atom 10, it 400, .bool b1⟩, ⟨.gtr, 3, .atom 11, it 400, .bool b2⟩, ⟨.gtr, 3, .atom 12, it 400, .bool b3⟩]
def lawSame : List BinE := [⟨.neq, 23, at3 1, at3 1, .bool false⟩, ⟨.neq, 23, at3 14, at3 14, .bool false⟩, ⟨.neq, 23, at3 17, at3 17, .bool false⟩, ⟨.neq, 23, at3 25, at3 25, .bool false⟩]
def lawSub : List BinE := [⟨.lss, 3, .atom 23, it 0, .atom 20⟩, ⟨.neq, 4, .atom 20, .atom 20, .bool false⟩, ⟨.eql, 9, .atom 21, .str [48], .atom 24⟩, ⟨.eql, 3, .atom 23, it 0, .atom 24⟩, ⟨.neq, 4, .atom 24, .atom 24, .bool false⟩]
def lawLen : List LenE := [⟨9, .atom 2, .atom 10⟩, ⟨9, .atom 5, .atom 11⟩, ⟨9, .atom 8, .atom 12⟩]
def lawShown : CallE := ⟨8, [], .bool true⟩
def lawCheck (q1 q2 q3 : Bool) : List CallE := [⟨13, [at3 1], it (ck q1)⟩, ⟨13, [at3 4], it (ck q2)⟩, ⟨13, [at3 7], it (ck q3)⟩]
def lawA (e1 e2 e3 : Bool) : List CallE := [⟨11, [at3 1], .tup [.atom 13, it 0]⟩, ⟨9, [.atom 13], res3 1 0⟩, ⟨23, [at3 1, at3 4], res3 14 (er e1)⟩, ⟨23, [at3 4, at3 1], res3 14 (er e1)⟩,
  ⟨24, [at3 1, at3 4], res3 17 (er e2)⟩, ⟨24, [at3 4, at3 1], res3 17 (er e2)⟩, ⟨25, [at3 1, at3 4], res3 20 (er e3)⟩, ⟨26, [at3 1, at3 4], .tup [.atom 23, it 0]⟩]
def lawB (e4 e5 e6 : Bool) : List CallE := [⟨25, [at3 14, at3 4], res3 1 0⟩, ⟨24, [at3 14, at3 7], res3 25 (er e4)⟩, ⟨24, [at3 1, at3 7], res3 28 (er e5)⟩, ⟨24, [at3 4, at3 7], res3 31 (er e6)⟩]
def lawC : List CallE := [⟨23, [at3 28, at3 31], res3 25 0⟩]
noncomputable def lawRun (y : SymF) : Bool := runY Tryz.prog nG (fun _ => none) gd y 100 5 [at3 1, at3 4, at3 7] h0 retTrue
def lawYes (e3 : Bool) (l : List CallE) : SymF := ⟨lawBin false false false ++ (lawSame ++ (bif e3 then lawSub else [])), lawLen, lawShown :: (lawCheck true true true ++ l)⟩
set_option maxRecDepth 1000000 in
theorem run_long : ∀ b1 b2 b3 : Bool, (b1 || (b2 || b3)) = true → lawRun ⟨lawBin b1 b2 b3, lawLen, [lawShown]⟩ = true := by
  intro b1 b2 b3 h
  cases b1 <;> cases b2 <;> cases b3 <;> first | (cases h; done) | decide +kernel
set_option maxRecDepth 1000000 in
theorem run_bad : ∀ q1 q2 q3 : Bool, (q1 && (q2 && q3)) = false → lawRun ⟨lawBin false false false, lawLen, lawShown :: lawCheck q1 q2 q3⟩ = true := by
  intro q1 q2 q3 h
  cases q1 <;> cases q2 <;> cases q3 <;> first | (cases h; done) | decide +kernel
set_option maxRecDepth 1000000 in
theorem run_no : ∀ e2 e3 : Bool, lawRun (lawYes e3 (lawA false e2 e3)) = true := by
  intro e2 e3
  cases e2 <;> cases e3 <;> decide +kernel
set_option maxRecDepth 1000000 in
theorem run_some : ∀ e2 e3 e4 e5 e6 : Bool, (e4 && (e5 && e6)) = false → lawRun (lawYes e3 (lawA true e2 e3 ++ lawB e4 e5 e6)) = true := by
  intro e2 e3 e4 e5 e6 h
  cases e2 <;> cases e3 <;> cases e4 <;> cases e5 <;> cases e6 <;> first | (cases h; done) | decide +kernel
set_option maxRecDepth 1000000 in
theorem run_all : ∀ e2 e3 : Bool, lawRun (lawYes e3 (lawA true e2 e3 ++ (lawB true true true ++ lawC))) = true := by
  intro e2 e3
  cases e2 <;> cases e3 <;> decide +kernel
/-- The first twelve atoms. -/
def env12 (n : Bool) (s : ByteArray) (S : Int) (m : Bool) (t : ByteArray) (U : Int) (l : Bool) (v : ByteArray) (V : Int) : List Value := [.bool n, .string s, .int .i64 S, .bool m, .string t, .int .i64 U, .bool l, .string v, .int .i64 V, .int .i64 (s.size : Int), .int .i64 (t.size : Int), .int .i64 (v.size : Int)]
section
variable {n : Bool} {s : ByteArray} {S : Int} {m : Bool} {t : ByteArray} {U : Int} {l : Bool} {v : ByteArray} {V : Int} {M : Int} {r : List Value}
theorem len_ok : AllL Tryz.prog (envE (.int .i64 M :: (env12 n s S m t U l v V ++ r))) lawLen :=
  ⟨sym_len (s := s) Tryz.underlying9 (fun _ => rfl) (fun _ => rfl) rfl, sym_len (s := t) Tryz.underlying9 (fun _ => rfl) (fun _ => rfl) rfl, sym_len (s := v) Tryz.underlying9 (fun _ => rfl) (fun _ => rfl) rfl, trivial⟩
theorem bin_ok {b1 b2 b3 : Bool} (h1 : decide (400 < (s.size : Int)) = b1) (h2 : decide (400 < (t.size : Int)) = b2) (h3 : decide (400 < (v.size : Int)) = b3) : AllB Tryz.prog (envE (.int .i64 M :: (env12 n s S m t U l v V ++ r))) (lawBin b1 b2 b3) :=
  ⟨sym_cmp (k := .i64) (a := s.size) (b := 400) (fun _ => rfl) (fun _ => rfl) (fun _ => rfl) rfl (.inl ⟨rfl, h1⟩), sym_cmp (k := .i64) (a := t.size) (b := 400) (fun _ => rfl) (fun _ => rfl) (fun _ => rfl) rfl (.inl ⟨rfl, h2⟩),
    sym_cmp (k := .i64) (a := v.size) (b := 400) (fun _ => rfl) (fun _ => rfl) (fun _ => rfl) rfl (.inl ⟨rfl, h3⟩), trivial⟩
theorem shown_ok {E : Nat → Value} : CallE.Ok Tryz.prog E Good lawShown := ⟨rfl, ⟨_, Tryz.func8, by kernel_rfl, by kernel_rfl⟩, fun L w hG => shown_true w hG⟩
theorem check_ok (h1 : s.size ≤ 400) (h2 : t.size ≤ 400) (h3 : v.size ≤ 400) {q1 q2 q3 : Bool} (k1 : okB n s S = q1) (k2 : okB m t U = q2) (k3 : okB l v V = q3) : AllC Tryz.prog (envE (.int .i64 M :: (env12 n s S m t U l v V ++ r))) Good (lawCheck q1 q2 q3) :=
  ⟨⟨rfl, ⟨_, Tryz.func13, by kernel_rfl, by kernel_rfl⟩, fun L w hG => pcheck_r n s S (by omega) (ck q1) (by rw [ck_is, k1]) w⟩,
    ⟨rfl, ⟨_, Tryz.func13, by kernel_rfl, by kernel_rfl⟩, fun L w hG => pcheck_r m t U (by omega) (ck q2) (by rw [ck_is, k2]) w⟩,
    ⟨rfl, ⟨_, Tryz.func13, by kernel_rfl, by kernel_rfl⟩, fun L w hG => pcheck_r l v V (by omega) (ck q3) (by rw [ck_is, k3]) w⟩, trivial⟩
end
set_option maxRecDepth 100000 in
theorem laws_long (n : Bool) (s : ByteArray) (S : Int) (m : Bool) (t : ByteArray) (U : Int) (l : Bool) (v : ByteArray) (V : Int) (h : 400 < s.size ∨ 400 < t.size ∨ 400 < v.size) (w : World) (M : Int) (hV : Vars M w) : Calls Tryz.prog 5 #[.agg #[.bool n, .string s, .int .i64 S], .agg #[.bool m, .string t, .int .i64 U], .agg #[.bool l, .string v, .int .i64 V]] w fun e w' => e = .returned (.bool true) ∧ Below w.heap.size w w' := by
  have hr := run_long (decide (400 < (s.size : Int))) (decide (400 < (t.size : Int))) (decide (400 < (v.size : Int))) (by
    simp only [Bool.or_eq_true, decide_eq_true_eq]
    omega)
  have hy : SymF.Ok Tryz.prog (envE (.int .i64 M :: (env12 n s S m t U l v V ++ []))) Good ⟨lawBin (decide (400 < (s.size : Int))) (decide (400 < (t.size : Int))) (decide (400 < (v.size : Int))), lawLen, [lawShown]⟩ := ⟨bin_ok rfl rfl rfl, len_ok, ⟨shown_ok, trivial⟩⟩
  have hl := law_run hy rfl hr rfl hV
  exact hl
set_option maxRecDepth 100000 in
theorem laws_bad (n : Bool) (s : ByteArray) (S : Int) (m : Bool) (t : ByteArray) (U : Int) (l : Bool) (v : ByteArray) (V : Int) (h1 : s.size ≤ 400) (h2 : t.size ≤ 400) (h3 : v.size ≤ 400) (k : (okB n s S && (okB m t U && okB l v V)) = false) (w : World) (M : Int) (hV : Vars M w) : Calls Tryz.prog 5 #[.agg #[.bool n, .string s, .int .i64 S], .agg #[.bool m, .string t, .int .i64 U], .agg #[.bool l, .string v, .int .i64 V]] w fun e w' => e = .returned (.bool true) ∧ Below w.heap.size w w' := by
  have hr := run_bad (okB n s S) (okB m t U) (okB l v V) k
  have hy : SymF.Ok Tryz.prog (envE (.int .i64 M :: (env12 n s S m t U l v V ++ []))) Good ⟨lawBin false false false, lawLen, lawShown :: lawCheck (okB n s S) (okB m t U) (okB l v V)⟩ := ⟨bin_ok (decide_eq_false (by omega)) (decide_eq_false (by omega)) (decide_eq_false (by omega)), len_ok, ⟨shown_ok, check_ok h1 h2 h3 rfl rfl rfl⟩⟩
  have hl := law_run hy rfl hr rfl hV
  exact hl
/-- All atoms of a case without bad decimals. -/
def envYes (T : ByteArray) (n1 : Bool) (s1 : ByteArray) (S1 : Int) (n2 : Bool) (s2 : ByteArray) (S2 : Int) (n3 : Bool) (s3 : ByteArray) (S3 z : Int) (zb : Bool) (r : List Value) : List Value := [.string T, .bool n1, .string s1, .int .i64 S1, .bool n2, .string s2, .int .i64 S2, .bool n3, .string s3, .int .i64 S3, .int .i64 z, .bool zb] ++ r
section
variable {n : Bool} {s : ByteArray} {S : Int} {m : Bool} {t : ByteArray} {U : Int} {l : Bool} {v : ByteArray} {V : Int} {M : Int} {T : ByteArray} {n1 : Bool} {s1 : ByteArray} {S1 : Int} {n2 : Bool} {s2 : ByteArray} {S2 : Int} {n3 : Bool} {s3 : ByteArray} {S3 z : Int} {zb : Bool} {n4 : Bool} {s4 : ByteArray} {S4 : Int} {r : List Value}
theorem same_ok : AllB Tryz.prog (envE (.int .i64 M :: (env12 n s S m t U l v V ++ envYes T n1 s1 S1 n2 s2 S2 n3 s3 S3 z zb ([.bool n4, .string s4, .int .i64 S4] ++ r)))) lawSame :=
  ⟨dec_same (n := n) (s := s) (S := S) rfl rfl rfl, dec_same (n := n1) (s := s1) (S := S1) rfl rfl rfl, dec_same (n := n2) (s := s2) (S := S2) rfl rfl rfl, dec_same (n := n4) (s := s4) (S := S4) rfl rfl rfl, trivial⟩
theorem sub_ok {e3 : Bool} (h : e3 = true → decide (z < 0) = n3 ∧ (s3.toList == [48]) = zb ∧ (z == 0) = zb) : AllB Tryz.prog (envE (.int .i64 M :: (env12 n s S m t U l v V ++ envYes T n1 s1 S1 n2 s2 S2 n3 s3 S3 z zb r))) (bif e3 then lawSub else []) := by
  cases e3 with
  | false => exact trivial
  | true =>
    obtain ⟨h1, h2, h3⟩ := h rfl
    exact ⟨sym_cmp (k := .i64) (a := z) (b := 0) (c := n3) (fun _ => rfl) (fun _ => rfl) (fun _ => rfl) rfl (.inr (.inl ⟨rfl, h1⟩)), sym_bool (a := n3) (b := n3) (c := false) Tryz.underlying4 (fun _ => rfl) (fun _ => rfl) (fun _ => rfl) rfl (by simp),
      sym_str (a := s3) (b := ⟨#[48]⟩) (c := zb) (fun _ => rfl) (fun _ => rfl) (fun _ => rfl) rfl (by rw [show (⟨#[48]⟩ : ByteArray).toList = [48] by rw [ByteArray.toList_eq]]; exact h2), sym_cmp (k := .i64) (a := z) (b := 0) (c := zb) (fun _ => rfl) (fun _ => rfl) (fun _ => rfl) rfl (.inr (.inr (.inr (.inr (.inl ⟨rfl, h3⟩))))), sym_bool (a := zb) (b := zb) (c := false) Tryz.underlying4 (fun _ => rfl) (fun _ => rfl) (fun _ => rfl) rfl (by simp), trivial⟩
theorem a_ok {e1 e2 e3 : Bool} (h1 : s.size ≤ 400) (h2 : t.size ≤ 400) (hT : T.size ≤ 400) (eT : textR n s S = (T, 0)) (eR : readR (bts T) = ⟨n, s, S, 0⟩) (eX : twoR Dc.addD n s S m t U = ⟨n1, s1, S1, er e1⟩) (eY : twoR Dc.addD m t U n s S = ⟨n1, s1, S1, er e1⟩)
    (eP : twoR Dc.mulD n s S m t U = ⟨n2, s2, S2, er e2⟩) (eQ : twoR Dc.mulD m t U n s S = ⟨n2, s2, S2, er e2⟩) (eD : twoR Dc.subD n s S m t U = ⟨n3, s3, S3, er e3⟩) (eO : cmpR n s S m t U = (z, 0)) : AllC Tryz.prog (envE (.int .i64 M :: (env12 n s S m t U l v V ++ envYes T n1 s1 S1 n2 s2 S2 n3 s3 S3 z zb r))) Good (lawA e1 e2 e3) :=
  ⟨⟨rfl, ⟨_, Tryz.func11, by kernel_rfl, by kernel_rfl⟩, fun L w hG => ptext_is n s S (by omega) T 0 eT w⟩,
    ⟨rfl, ⟨_, Tryz.func9, by kernel_rfl, by kernel_rfl⟩, fun L w hG => pread_is T hT ⟨n, s, S, 0⟩ eR w hG⟩,
    ⟨rfl, ⟨_, Tryz.func23, by kernel_rfl, by kernel_rfl⟩, fun L w hG => padd_is n s S m t U (by omega) (by omega) ⟨n1, s1, S1, er e1⟩ eX w hG.pow⟩,
    ⟨rfl, ⟨_, Tryz.func23, by kernel_rfl, by kernel_rfl⟩, fun L w hG => padd_is m t U n s S (by omega) (by omega) ⟨n1, s1, S1, er e1⟩ eY w hG.pow⟩,
    ⟨rfl, ⟨_, Tryz.func24, by kernel_rfl, by kernel_rfl⟩, fun L w hG => pmul_is n s S m t U (by omega) (by omega) ⟨n2, s2, S2, er e2⟩ eP w hG.pow⟩,
    ⟨rfl, ⟨_, Tryz.func24, by kernel_rfl, by kernel_rfl⟩, fun L w hG => pmul_is m t U n s S (by omega) (by omega) ⟨n2, s2, S2, er e2⟩ eQ w hG.pow⟩,
    ⟨rfl, ⟨_, Tryz.func25, by kernel_rfl, by kernel_rfl⟩, fun L w hG => psub_is n s S m t U (by omega) (by omega) ⟨n3, s3, S3, er e3⟩ eD w hG.pow⟩,
    ⟨rfl, ⟨_, Tryz.func26, by kernel_rfl, by kernel_rfl⟩, fun L w hG => pcmp_is n s S m t U (by omega) (by omega) z 0 eO w⟩, trivial⟩
variable {n5 : Bool} {s5 : ByteArray} {S5 : Int} {n6 : Bool} {s6 : ByteArray} {S6 : Int}
theorem b_ok {e4 e5 e6 : Bool} (h1 : s.size ≤ 400) (h2 : t.size ≤ 400) (h3 : v.size ≤ 400) (h4 : s1.size ≤ 400) (eZ : twoR Dc.subD n1 s1 S1 m t U = ⟨n, s, S, 0⟩) (eL : twoR Dc.mulD n1 s1 S1 l v V = ⟨n4, s4, S4, er e4⟩) (e5' : twoR Dc.mulD n s S l v V = ⟨n5, s5, S5, er e5⟩) (e6' : twoR Dc.mulD m t U l v V = ⟨n6, s6, S6, er e6⟩) :
    AllC Tryz.prog (envE (.int .i64 M :: (env12 n s S m t U l v V ++ envYes T n1 s1 S1 n2 s2 S2 n3 s3 S3 z zb ([.bool n4, .string s4, .int .i64 S4] ++ [.bool n5, .string s5, .int .i64 S5, .bool n6, .string s6, .int .i64 S6])))) Good (lawB e4 e5 e6) :=
  ⟨⟨rfl, ⟨_, Tryz.func25, by kernel_rfl, by kernel_rfl⟩, fun L w hG => psub_is n1 s1 S1 m t U (by omega) (by omega) ⟨n, s, S, 0⟩ eZ w hG.pow⟩,
    ⟨rfl, ⟨_, Tryz.func24, by kernel_rfl, by kernel_rfl⟩, fun L w hG => pmul_is n1 s1 S1 l v V (by omega) (by omega) ⟨n4, s4, S4, er e4⟩ eL w hG.pow⟩,
    ⟨rfl, ⟨_, Tryz.func24, by kernel_rfl, by kernel_rfl⟩, fun L w hG => pmul_is n s S l v V (by omega) (by omega) ⟨n5, s5, S5, er e5⟩ e5' w hG.pow⟩,
    ⟨rfl, ⟨_, Tryz.func24, by kernel_rfl, by kernel_rfl⟩, fun L w hG => pmul_is m t U l v V (by omega) (by omega) ⟨n6, s6, S6, er e6⟩ e6' w hG.pow⟩, trivial⟩
theorem c_ok (h5 : s5.size ≤ 400) (h6 : s6.size ≤ 400) (e7 : twoR Dc.addD n5 s5 S5 n6 s6 S6 = ⟨n4, s4, S4, 0⟩) :
    AllC Tryz.prog (envE (.int .i64 M :: (env12 n s S m t U l v V ++ envYes T n1 s1 S1 n2 s2 S2 n3 s3 S3 z zb ([.bool n4, .string s4, .int .i64 S4] ++ [.bool n5, .string s5, .int .i64 S5, .bool n6, .string s6, .int .i64 S6])))) Good lawC :=
  ⟨⟨rfl, ⟨_, Tryz.func23, by kernel_rfl, by kernel_rfl⟩, fun L w hG => padd_is n5 s5 S5 n6 s6 S6 (by omega) (by omega) ⟨n4, s4, S4, 0⟩ e7 w hG.pow⟩, trivial⟩
end
set_option maxRecDepth 100000 in
theorem laws_any (n : Bool) (s : ByteArray) (S : Int) (m : Bool) (t : ByteArray) (U : Int) (l : Bool) (v : ByteArray) (V : Int) (w : World) (M : Int) (hV : Vars M w) : Calls Tryz.prog 5 #[.agg #[.bool n, .string s, .int .i64 S], .agg #[.bool m, .string t, .int .i64 U], .agg #[.bool l, .string v, .int .i64 V]] w fun e w' => e = .returned (.bool true) ∧ Below w.heap.size w w' := by
  by_cases h : 400 < s.size ∨ 400 < t.size ∨ 400 < v.size
  · exact laws_long n s S m t U l v V h w M hV
  have h1 : s.size ≤ 400 := by omega
  have h2 : t.size ≤ 400 := by omega
  have h3 : v.size ≤ 400 := by omega
  clear h
  cases k : okB n s S && (okB m t U && okB l v V) with
  | false => exact laws_bad n s S m t U l v V h1 h2 h3 k w M hV
  | true =>
  simp only [Bool.and_eq_true] at k
  obtain ⟨k1, k2, k3⟩ := k
  obtain ⟨T, hT, eT, eR⟩ := text_back k1
  have eO : cmpR n s S m t U = (Dc.cmpD (rawD n s S) (rawD m t U), 0) := if_pos ⟨k1, k2⟩
  obtain ⟨z, hz⟩ : ∃ z, Dc.cmpD (rawD n s S) (rawD m t U) = z := ⟨_, rfl⟩
  rw [hz] at eO
  obtain ⟨o3, eD⟩ : ∃ o, Dc.subD (rawD n s S) (rawD m t U) = o := ⟨_, rfl⟩
  obtain ⟨zb, hb⟩ : ∃ zb, o3.isSome = true → decide (z < 0) = (resOf o3).n ∧ ((resOf o3).s.toList == [48]) = zb ∧ (z == 0) = zb := by
    cases o3 with
    | none => exact ⟨true, fun h => by cases h⟩
    | some d =>
      have hc := Dc.sub_cmp eD
      rw [hz] at hc
      refine ⟨decide (d.2.1 = 0), fun _ => ⟨?_, ?_, ?_⟩⟩
      · show _ = d.1
        cases hd : d.1 with
        | true => exact decide_eq_true (hc.1.1 hd)
        | false => exact decide_eq_false (fun h => by rw [hc.1.2 h] at hd; cases hd)
      · show ((str (Dc.digs d.2.1)).toList == [48]) = _
        rw [word_beq, bts_digs]
        apply decide_eq_decide.2
        constructor
        · intro h
          have h5 := congrArg Dc.val h
          rw [Dc.val_digs] at h5
          exact h5
        · intro h
          rw [h]; rfl
      · rw [Bool.eq_iff_iff, beq_iff_eq, decide_eq_true_eq]
        exact hc.2.symm
  obtain ⟨n2, s2, S2, e2, eP, eQ⟩ : ∃ n2 s2 S2 e2, twoR Dc.mulD n s S m t U = ⟨n2, s2, S2, er e2⟩ ∧ twoR Dc.mulD m t U n s S = ⟨n2, s2, S2, er e2⟩ :=
    ⟨_, _, _, _, (two_yes k1 k2).trans (res_er _), ((two_yes k2 k1).trans (congrArg resOf (Dc.mul_comm _ _))).trans (res_er _)⟩
  obtain ⟨n3, s3, S3, eD', hb⟩ : ∃ n3 s3 S3, twoR Dc.subD n s S m t U = ⟨n3, s3, S3, er o3.isSome⟩ ∧ (o3.isSome = true → decide (z < 0) = n3 ∧ (s3.toList == [48]) = zb ∧ (z == 0) = zb) :=
    ⟨_, _, _, ((two_yes k1 k2).trans (congrArg resOf eD)).trans (res_er _), hb⟩
  clear eD hz
  obtain ⟨o1, eX⟩ : ∃ o, Dc.addD (rawD n s S) (rawD m t U) = o := ⟨_, rfl⟩
  have B0 := fun r => bin_ok (n := n) (s := s) (S := S) (m := m) (t := t) (U := U) (l := l) (v := v) (V := V) (M := M) (r := r) (decide_eq_false (by omega)) (decide_eq_false (by omega)) (decide_eq_false (by omega))
  cases o1 with
  | none =>
    obtain ⟨n1, s1, S1, eX1, eY1⟩ : ∃ n1 s1 S1, twoR Dc.addD n s S m t U = ⟨n1, s1, S1, er false⟩ ∧ twoR Dc.addD m t U n s S = ⟨n1, s1, S1, er false⟩ :=
      ⟨_, _, _, ((two_yes k1 k2).trans (congrArg resOf eX)).trans (res_er none), ((two_yes k2 k1).trans (congrArg resOf ((Dc.add_comm _ _).trans eX))).trans (res_er none)⟩
    have hr := run_no e2 o3.isSome
    have hy : SymF.Ok Tryz.prog (envE (.int .i64 M :: (env12 n s S m t U l v V ++ envYes T n1 s1 S1 n2 s2 S2 n3 s3 S3 z zb ([.bool false, .string ⟨#[]⟩, .int .i64 0] ++ [])))) Good (lawYes o3.isSome (lawA false e2 o3.isSome)) :=
      ⟨AllB_append (B0 _) (AllB_append same_ok (sub_ok hb)), len_ok, ⟨shown_ok, AllC_append (check_ok h1 h2 h3 k1 k2 k3) (a_ok h1 h2 hT eT eR eX1 eY1 eP eQ eD' eO)⟩⟩
    have hl := law_run hy rfl hr rfl hV
    exact hl
  | some x =>
    have ox : Dc.ok x := (Dc.canI_at (show Dc.canI _ _ = some x from eX)).1
    have h4 : (str (Dc.digs x.2.1)).size ≤ 400 := ok_size ox
    have eZ : twoR Dc.subD x.1 (str (Dc.digs x.2.1)) (x.2.2 : Int) m t U = ⟨n, s, S, 0⟩ := by
      rw [two_yes (ok_okB ox) k2, raw_of, Dc.add_sub (okB_ok k1).can eX, raw_res (okB_ok k1)]
    obtain ⟨o4, eL⟩ : ∃ o, Dc.mulD x (rawD l v V) = o := ⟨_, rfl⟩
    obtain ⟨o5, eA⟩ : ∃ o, Dc.mulD (rawD n s S) (rawD l v V) = o := ⟨_, rfl⟩
    obtain ⟨o6, eB⟩ : ∃ o, Dc.mulD (rawD m t U) (rawD l v V) = o := ⟨_, rfl⟩
    obtain ⟨n1, s1, S1, eX1, eY1, h4, eZ, hx⟩ : ∃ n1 s1 S1, twoR Dc.addD n s S m t U = ⟨n1, s1, S1, er true⟩ ∧ twoR Dc.addD m t U n s S = ⟨n1, s1, S1, er true⟩ ∧ s1.size ≤ 400 ∧ twoR Dc.subD n1 s1 S1 m t U = ⟨n, s, S, 0⟩ ∧ twoR Dc.mulD n1 s1 S1 l v V = resOf o4 :=
      ⟨_, _, _, ((two_yes k1 k2).trans (congrArg resOf eX)).trans (res_er (some x)), ((two_yes k2 k1).trans (congrArg resOf ((Dc.add_comm _ _).trans eX))).trans (res_er (some x)), h4, eZ, by
        show twoR Dc.mulD x.1 (str (Dc.digs x.2.1)) (x.2.2 : Int) l v V = _
        rw [two_yes (ok_okB ox) k3, raw_of, eL]⟩
    obtain ⟨n4, s4, S4, eL1, hy4⟩ : ∃ n4 s4 S4, twoR Dc.mulD n1 s1 S1 l v V = ⟨n4, s4, S4, er o4.isSome⟩ ∧ resOf o4 = ⟨n4, s4, S4, er o4.isSome⟩ := ⟨_, _, _, hx.trans (res_er _), res_er _⟩
    obtain ⟨n5, s5, S5, eA1, hy5⟩ : ∃ n5 s5 S5, twoR Dc.mulD n s S l v V = ⟨n5, s5, S5, er o5.isSome⟩ ∧ resOf o5 = ⟨n5, s5, S5, er o5.isSome⟩ := ⟨_, _, _, ((two_yes k1 k3).trans (congrArg resOf eA)).trans (res_er _), res_er _⟩
    obtain ⟨n6, s6, S6, eB1, hy6⟩ : ∃ n6 s6 S6, twoR Dc.mulD m t U l v V = ⟨n6, s6, S6, er o6.isSome⟩ ∧ resOf o6 = ⟨n6, s6, S6, er o6.isSome⟩ := ⟨_, _, _, ((two_yes k2 k3).trans (congrArg resOf eB)).trans (res_er _), res_er _⟩
    cases ha : o4.isSome && (o5.isSome && o6.isSome) with
    | false =>
      have hr := run_some e2 o3.isSome _ _ _ ha
      have hy : SymF.Ok Tryz.prog (envE (.int .i64 M :: (env12 n s S m t U l v V ++ envYes T n1 s1 S1 n2 s2 S2 n3 s3 S3 z zb ([.bool n4, .string s4, .int .i64 S4] ++ [.bool n5, .string s5, .int .i64 S5, .bool n6, .string s6, .int .i64 S6])))) Good (lawYes o3.isSome (lawA true e2 o3.isSome ++ lawB o4.isSome o5.isSome o6.isSome)) :=
        ⟨AllB_append (B0 _) (AllB_append same_ok (sub_ok hb)), len_ok, ⟨shown_ok, AllC_append (check_ok h1 h2 h3 k1 k2 k3) (AllC_append (a_ok h1 h2 hT eT eR eX1 eY1 eP eQ eD' eO) (b_ok h1 h2 h3 h4 eZ eL1 eA1 eB1))⟩⟩
      have hl := law_run hy rfl hr rfl hV
      exact hl
    | true =>
      cases o4 with
      | none => cases ha
      | some y =>
      cases o5 with
      | none => cases ha
      | some p =>
      cases o6 with
      | none => cases ha
      | some q =>
        have op : Dc.ok p := (Dc.canI_at (show Dc.canI _ _ = some p from eA)).1
        have oq : Dc.ok q := (Dc.canI_at (show Dc.canI _ _ = some q from eB)).1
        have e7 : s5.size ≤ 400 ∧ s6.size ≤ 400 ∧ twoR Dc.addD n5 s5 S5 n6 s6 S6 = ⟨n4, s4, S4, 0⟩ := by
          obtain ⟨rfl, rfl, rfl, _⟩ := Res.mk.inj hy4
          obtain ⟨rfl, rfl, rfl, _⟩ := Res.mk.inj hy5
          obtain ⟨rfl, rfl, rfl, _⟩ := Res.mk.inj hy6
          exact ⟨ok_size op, ok_size oq, by rw [two_yes (ok_okB op) (ok_okB oq), raw_of, raw_of, Dc.distrib eX eL eA eB]; rfl⟩
        have hr := run_all e2 o3.isSome
        have hy : SymF.Ok Tryz.prog (envE (.int .i64 M :: (env12 n s S m t U l v V ++ envYes T n1 s1 S1 n2 s2 S2 n3 s3 S3 z zb ([.bool n4, .string s4, .int .i64 S4] ++ [.bool n5, .string s5, .int .i64 S5, .bool n6, .string s6, .int .i64 S6])))) Good (lawYes o3.isSome (lawA true e2 o3.isSome ++ (lawB true true true ++ lawC))) :=
          ⟨AllB_append (B0 _) (AllB_append same_ok (sub_ok hb)), len_ok, ⟨shown_ok, AllC_append (check_ok h1 h2 h3 k1 k2 k3) (AllC_append (a_ok h1 h2 hT eT eR eX1 eY1 eP eQ eD' eO) (AllC_append (b_ok h1 h2 h3 h4 eZ eL1 eA1 eB1) (c_ok e7.1 e7.2.1 e7.2.2)))⟩⟩
        have hl := law_run hy rfl hr rfl hV
        exact hl
end Go.Proofs.YthmmjihldkjhhaaGreatDoor
