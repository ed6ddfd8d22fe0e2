/-
  Part 22 of the proof: what functions return, and plain facts (Mchain). Conditions: each theorem names its own.
-/
import Derived.Test.YthoojcdjjecogaaGreatDoorG21
set_option maxRecDepth 1000000
set_option maxHeartbeats 16000000
namespace Go.Proofs.YthoojcdjjecogaaGreatDoor
open Go Go.RowKit
namespace Mo
theorem no {α : Type} {x : α} {P : Prop} (h : none = some x) : P := by cases h
abbrev Ob := Option (List Nat)
def hasO (c : Nat) (o : Ob) : Ob := o.map fun l => (hasP c l).2
def wantO (c : Nat) (o : Ob) : Ob := o.bind (wantP c)
def numO (m : Nat) (o : Ob) : Ob := (o.bind (numP m)).map Prod.snd
def isHas (c : Nat) (o : Ob) (x : Bool) : Prop := ∀ l, o = some l -> x = (hasP c l).1
def isNum (m : Nat) (o : Ob) (v : Nat) : Prop := ∀ p, o.bind (numP m) = some p -> v = p.1
theorem hasO_some {c : Nat} {l : List Nat} : hasO c (some l) = some (hasP c l).2 := rfl
theorem wantO_some {c : Nat} {l : List Nat} : wantO c (some l) = wantP c l := rfl
theorem num_cases (m : Nat) (l : List Nat) : (numP m l = none /\ numO m (some l) = none) \/ ∃ v r, numP m l = some (v, r) /\ numO m (some l) = some r /\ ∀ u, isNum m (some l) u -> u = v := by
 unfold numO isNum
 cases h : numP m l with
 | none => left; exact ⟨rfl, by simp [h]⟩
 | some p => right; exact ⟨p.1, p.2, rfl, by simp [h], fun u hu => hu p h⟩
def dateO (o : Ob) : Ob := numO 2 (wantO 45 (numO 2 (wantO 45 (numO 4 (hasO 45 o)))))
theorem date_chain {o : Ob} {x : Bool} {y m d : Nat} (hx : isHas 45 o x) (hy : isNum 4 (hasO 45 o) y) (hm : isNum 2 (wantO 45 (numO 4 (hasO 45 o))) m) (hd : isNum 2 (wantO 45 (numO 2 (wantO 45 (numO 4 (hasO 45 o))))) d) :
  dateO o = (o.bind dateP).map Prod.snd /\ ∀ r, o.bind dateP = some r -> r.1 = (if x then -(y : Int) else (y : Int), (m : Int), (d : Int)) := by
 unfold dateO
 cases o with
 | none => exact ⟨rfl, fun r h => no h⟩
 | some l =>
  have e := hx l rfl
  rw [hasO_some] at *
  show _ = (dateP l).map Prod.snd /\ ∀ r, dateP l = some r -> _
  unfold dateP
  rw [<- e]
  rcases num_cases 4 (hasP 45 l).2 with ⟨h1, h2⟩ | ⟨v, r, h1, h2, h3⟩
  ·rw [h1, h2]; exact ⟨rfl, fun r h => no h⟩
  ·rw [h1, h2]
   rw [h2] at hm hd
   have := h3 y hy
   subst this
   simp only [Option.bind_some]
   rw [wantO_some] at *
   cases hw : wantP 45 r with
   | none => exact ⟨rfl, fun r h => no h⟩
   | some l1 =>
    rw [hw] at hm hd
    simp only [Option.bind_some]
    rcases num_cases 2 l1 with ⟨h1, h2⟩ | ⟨v, r, h1, h2, h3⟩
    ·rw [h1, h2]; exact ⟨rfl, fun r h => no h⟩
    ·rw [h1, h2]
     rw [h2] at hd
     have := h3 m hm
     subst this
     simp only [Option.bind_some]
     rw [wantO_some] at *
     cases hw : wantP 45 r with
     | none => exact ⟨rfl, fun r h => no h⟩
     | some l1 =>
      rw [hw] at hd
      simp only [Option.bind_some]
      rcases num_cases 2 l1 with ⟨h1, h2⟩ | ⟨v, r, h1, h2, h3⟩
      ·rw [h1, h2]; exact ⟨rfl, fun r h => no h⟩
      ·rw [h1, h2]
       have := h3 d hd
       subst this
       exact ⟨rfl, fun r h => by cases h; rfl⟩
theorem two_val : ∀ {m : Nat} {d : List Nat}, d.all Dc.dig = true -> d.length = m -> twoL m (Dc.val d) = d := by
 intro m
 induction m with
 | zero => intro d _ hl; rw [List.length_eq_zero_iff.1 hl]; rfl
 | succ m ih =>
  intro d hd hl
  obtain ⟨e, c, rfl⟩ : ∃ e c, d = e ++ [c] := ⟨d.dropLast, d.getLast (fun h => by rw [h] at hl; cases hl), (List.dropLast_concat_getLast _).symm⟩
  rw [List.all_append, Bool.and_eq_true] at hd
  have hc : 48 <= c /\ c <= 57 := by
   have := hd.2
   simp only [List.all_cons, List.all_nil, Bool.and_true] at this
   exact Dc.dig_iff.1 this
  rw [Dc.val_snoc, twoL]
  have e1 : (Dc.val e * 10 + (c - 48)) / 10 = Dc.val e := by omega
  have e2 : 48 + (Dc.val e * 10 + (c - 48)) % 10 = c := by omega
  rw [e1, e2, ih hd.1 (by rw [List.length_append] at hl; simp at hl; exact hl)]
theorem numP_two {m : Nat} {l : List Nat} {p : Nat × List Nat} (h : numP m l = some p) : twoL m p.1 = l.take m /\ p.2 = l.drop m /\ (l.take m).length = m /\ (l.take m).all Dc.dig = true := by
 unfold numP at h
 split at h
 ·rename_i hc
  cases h
  have hl : (l.take m).length = m := by rw [List.length_take]; omega
  refine ⟨?_, rfl, hl, hc.2⟩
  have hv := Dc.val_lt hc.2
  rw [hl] at hv
  show twoL m (Dc.val (l.take m)) = _
  exact two_val hc.2 hl
 ·cases h
def runO (o : Ob) : Ob := o.map runR
def secS (x : Bool) (s v : Nat) (o : Ob) : List Nat := twoL 2 s ++ (if x then 46 :: (twoL 1 v ++ (match o with | some l => runD l | none => [])) else [])
def secO (x : Bool) (o : Ob) : Ob := if x then runO (numO 1 (hasO 46 o)) else hasO 46 o
theorem run_cons {c : Nat} {l : List Nat} (h : Dc.dig c = true) : runD (c :: l) = c :: runD l /\ runR (c :: l) = runR l := by
 unfold runD runR; simp [h]
theorem sec_chain {o : Ob} {x : Bool} {s v : Nat} (hs : isNum 2 o s) (hx : isHas 46 (numO 2 o) x) (hv : x = true -> isNum 1 (hasO 46 (numO 2 o)) v) :
  secO x (numO 2 o) = (o.bind secP).map Prod.snd /\ ∀ r, o.bind secP = some r -> r.1 = secS x s v (numO 1 (hasO 46 (numO 2 o))) := by
 cases o with
 | none => exact ⟨by cases x <;> rfl, fun r h => no h⟩
 | some l =>
  show _ = (secP l).map Prod.snd /\ ∀ r, secP l = some r -> _
  unfold secP
  rcases num_cases 2 l with ⟨h1, h2⟩ | ⟨n, r, h1, h2, h3⟩
  ·rw [h1, h2]; exact ⟨by cases x <;> rfl, fun r h => no h⟩
  ·have := h3 s hs
   subst this
   obtain ⟨e1, e2, e3, e4⟩ := numP_two h1
   simp only at e1 e2
   rw [h1, h2]
   rw [h2] at hx hv
   simp only [Option.bind_some]
   have ex := hx r rfl
   rw [<- ex]
   cases x with
   | false =>
    have eh : (hasP 46 r).2 = r := by
     cases r with
     | nil => rfl
     | cons a r =>
      by_cases ha : a = 46
      ·rw [ha, hasP_yes] at ex; cases ex
      ·rw [hasP_no r ha]
    simp only [Bool.false_eq_true, if_false]
    refine ⟨?_, fun q h => ?_⟩
    ·unfold secO
     rw [if_neg (by decide), hasO_some, eh]; rfl
    ·cases h
     unfold secS
     rw [if_neg (by decide), List.append_nil, e1]
   | true =>
    have hv := hv rfl
    simp only [if_true]
    unfold secO secS
    rw [if_pos rfl, if_pos rfl, hasO_some] at *
    rcases num_cases 1 (hasP 46 r).2 with ⟨h4, h5⟩ | ⟨n, q, h4, h5, h6⟩
    ·rw [h5]
     have : runD (hasP 46 r).2 = [] := by
      cases hq : (hasP 46 r).2 with
      | nil => rfl
      | cons c t =>
       cases hc : Dc.dig c with
       | true =>
        exfalso
        rw [hq] at h4
        unfold numP at h4
        rw [if_pos ⟨by simp, by simp [hc]⟩] at h4
        cases h4
       | false => unfold runD; simp [hc]
     rw [if_pos this]
     exact ⟨rfl, fun r h => no h⟩
    ·have := h6 v hv
     subst this
     obtain ⟨f1, f2, f3, f4⟩ := numP_two h4
     simp only at f1 f2
     rw [h5]
     obtain ⟨c, t, hq⟩ : ∃ c t, (hasP 46 r).2 = c :: t := by
      cases hq : (hasP 46 r).2 with
      | nil => rw [hq] at f3; cases f3
      | cons c t => exact ⟨c, t, rfl⟩
     rw [hq] at f1 f2 f3 f4 ⊢
     have hc : Dc.dig c = true := by simpa using f4
     have f2 : q = t := f2
     have f1 : twoL 1 v = [c] := f1
     obtain ⟨g1, g2⟩ := run_cons (l := t) hc
     rw [g1, g2, if_neg (by simp), f2, f1, e1]
     refine ⟨rfl, fun q h => ?_⟩
     cases h
     rfl
def hmO (o : Ob) : Ob := wantO 58 (numO 2 (wantO 58 (numO 2 o)))
theorem time_chain {o : Ob} {h i : Nat} {x : Bool} {s v : Nat} (hh : isNum 2 o h) (hi : isNum 2 (wantO 58 (numO 2 o)) i) (hs : isNum 2 (hmO o) s) (hx : isHas 46 (numO 2 (hmO o)) x) (hv : x = true -> isNum 1 (hasO 46 (numO 2 (hmO o))) v) :
  secO x (numO 2 (hmO o)) = (o.bind timeP).map Prod.snd /\ ∀ r, o.bind timeP = some r -> r.1 = ((h : Int), (i : Int), secS x s v (numO 1 (hasO 46 (numO 2 (hmO o))))) := by
 obtain ⟨k1, k2⟩ := sec_chain hs hx hv
 rw [k1]
 generalize secS x s v (numO 1 (hasO 46 (numO 2 (hmO o)))) = z at k2
 clear k1 hs hx hv
 unfold hmO at k2 ⊢
 cases o with
 | none => exact ⟨rfl, fun r h => no h⟩
 | some l =>
  show _ = (timeP l).map Prod.snd /\ ∀ r, timeP l = some r -> _
  unfold timeP
  rcases num_cases 2 l with ⟨h1, h2⟩ | ⟨n, r, h1, h2, h3⟩
  ·rw [h1, h2]; exact ⟨rfl, fun r h => no h⟩
  ·have := h3 h hh
   subst this
   rw [h1, h2]
   rw [h2] at hi k2
   simp only [Option.bind_some]
   rw [wantO_some] at *
   cases hw : wantP 58 r with
   | none => exact ⟨rfl, fun r h => no h⟩
   | some l1 =>
    rw [hw] at hi k2
    simp only [Option.bind_some]
    rcases num_cases 2 l1 with ⟨h1, h2⟩ | ⟨n, r, h1, h2, h3⟩
    ·rw [h1, h2]; exact ⟨rfl, fun r h => no h⟩
    ·have := h3 i hi
     subst this
     rw [h1, h2]
     rw [h2] at k2
     simp only [Option.bind_some]
     rw [wantO_some] at *
     cases hw : wantP 58 r with
     | none => exact ⟨rfl, fun r h => no h⟩
     | some l1 =>
      rw [hw] at k2
      simp only [Option.bind_some] at k2 ⊢
      cases hp : secP l1 with
      | none => exact ⟨rfl, fun r h => no h⟩
      | some p =>
       refine ⟨rfl, fun r h => ?_⟩
       cases h
       rw [k2 p hp]
def tailO (o : Ob) : Ob := numO 2 (wantO 58 (numO 2 o))
theorem zone_Z {o : Ob} (hx : isHas 90 o true) : (∀ z, o.bind zoneP = some z -> z = (true, 0)) /\ ((o.bind zoneP).isSome = true ↔ hasO 90 o = some []) := by
 cases o with
 | none => exact ⟨fun z h => no h, by simp [hasO]⟩
 | some l =>
  have e := hx l rfl
  have hl : l ≠ [] := fun h => by rw [h] at e; cases e
  rw [hasO_some]
  show (∀ z, zoneP l = some z -> _) /\ ((zoneP l).isSome = true ↔ _)
  unfold zoneP
  rw [if_neg hl, <- e, if_pos rfl]
  by_cases h : (hasP 90 l).2 = []
  ·rw [if_pos h]; exact ⟨fun z h => by cases h; rfl, by simp [h]⟩
  ·rw [if_neg h]; exact ⟨fun z h => no h, by simp [h]⟩
theorem has_no {c : Nat} {l : List Nat} (h : (hasP c l).1 = false) : (hasP c l).2 = l := by
 cases l with
 | nil => rfl
 | cons a r =>
  by_cases ha : a = c
  ·rw [ha, hasP_yes] at h; cases h
  ·rw [hasP_no r ha]
theorem zone_none {o : Ob} (hx : isHas 90 o false) (hn : ∀ l, hasO 90 o = some l -> l = []) : (∀ z, o.bind zoneP = some z -> z = (false, 0)) /\ ((o.bind zoneP).isSome = true ↔ hasO 90 o = some []) := by
 cases o with
 | none => exact ⟨fun z h => no h, by simp [hasO]⟩
 | some l =>
  have e := hx l rfl
  rw [hasO_some] at *
  have hl := hn _ rfl
  have h2 := has_no e.symm
  rw [hl] at h2
  subst h2
  exact ⟨fun z h => by cases h; rfl, by simp [hl]; rfl⟩
theorem zone_sign {o : Ob} {y : Bool} {h m : Nat} (hx : isHas 90 o false) (hn : ∀ l, hasO 90 o = some l -> l ≠ []) (hy : isHas 45 (hasO 90 o) y) (hh : isNum 2 (if y then hasO 45 (hasO 90 o) else wantO 43 (hasO 45 (hasO 90 o))) h) (hm : isNum 2 (wantO 58 (numO 2 (if y then hasO 45 (hasO 90 o) else wantO 43 (hasO 45 (hasO 90 o))))) m) :
  (∀ z, o.bind zoneP = some z -> z = (true, (if y then -1 else 1) * (60 * (h : Int) + (m : Int)))) /\ ((o.bind zoneP).isSome = true ↔ (m <= 59 /\ tailO (if y then hasO 45 (hasO 90 o) else wantO 43 (hasO 45 (hasO 90 o))) = some [])) := by
 cases o with
 | none => exact ⟨fun z h => no h, by cases y <;> simp [hasO, wantO, tailO, numO]⟩
 | some l =>
  have e := hx l rfl
  have h2 := has_no e.symm
  rw [hasO_some, h2] at hn hy hh hm ⊢
  have hl := hn _ rfl
  have ey := hy l rfl
  show (∀ z, zoneP l = some z -> _) /\ ((zoneP l).isSome = true ↔ _)
  unfold zoneP
  rw [if_neg hl, <- e]
  simp only [Bool.false_eq_true, if_false]
  have hs : (signP l).map Prod.snd = (if y then hasO 45 (some l) else wantO 43 (hasO 45 (some l))) /\ ∀ s, signP l = some s -> s.1 = if y then -1 else 1 := by
   unfold signP
   rw [<- ey]
   cases y with
   | true => exact ⟨rfl, fun s h => by cases h; rfl⟩
   | false =>
    have h3 := has_no ey.symm
    rw [hasO_some, h3]
    simp only [Bool.false_eq_true, if_false, wantO_some]
    cases wantP 43 l with
    | none => exact ⟨rfl, fun s h => no h⟩
    | some r => exact ⟨rfl, fun s h => by cases h; rfl⟩
  obtain ⟨s1, s2⟩ := hs
  rw [<- s1] at hh hm ⊢
  cases hsg : signP l with
  | none =>
   refine ⟨fun z h => no h, ?_⟩
   simp [tailO, numO, wantO]
  | some s =>
   rw [hsg] at hh hm
   have es := s2 s hsg
   simp only [Option.map_some, Option.bind_some] at hh hm ⊢
   unfold tailO
   rcases num_cases 2 s.2 with ⟨h1, h2⟩ | ⟨v, r, h1, h2, h3⟩
   ·rw [h1, h2]; exact ⟨fun z h => no h, by simp [wantO, numO]⟩
   ·have := h3 h hh
    subst this
    rw [h1, h2]
    rw [h2] at hm
    simp only [Option.bind_some]
    rw [wantO_some] at *
    cases hw : wantP 58 r with
    | none => exact ⟨fun z h => no h, by simp [numO]⟩
    | some l1 =>
     rw [hw] at hm
     simp only [Option.bind_some]
     rcases num_cases 2 l1 with ⟨h1, h2⟩ | ⟨v, r, h1, h2, h3⟩
     ·rw [h1, h2]; exact ⟨fun z h => no h, by simp⟩
     ·have := h3 m hm
      subst this
      rw [h1, h2]
      simp only [Option.bind_some]
      by_cases hc : 59 < m \/ r ≠ []
      ·rw [if_pos hc]
       refine ⟨fun z h => no h, ?_⟩
       simp only [Option.isSome_none, Bool.false_eq_true, Option.some.injEq, false_iff, not_and]
       intro h1 h2
       rcases hc with hc | hc
       ·omega
       ·exact hc h2
      ·rw [if_neg hc]
       simp only [not_or, Classical.not_not] at hc
       refine ⟨fun z h => by cases h; rw [es], ?_⟩
       simp only [Option.isSome_some, Option.some.injEq, true_iff]
       exact ⟨by omega, hc.2⟩
end Mo
end Go.Proofs.YthoojcdjjecogaaGreatDoor
