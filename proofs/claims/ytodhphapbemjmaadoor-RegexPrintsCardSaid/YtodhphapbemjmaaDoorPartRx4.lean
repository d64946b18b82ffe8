/- A plain parser, and that the layer's reader reads as it does. -/
import Derived.Test.YtodhphapbemjmaaDoorPartRx3
namespace Go.Ab
open Go.Proofs

abbrev Rng := List (UInt8 × UInt8)
def pEsc (c : UInt8) : Option Rng :=
  if c = 110 then some [(10, 10)] else if c = 116 then some [(9, 9)] else if c = 100 then some [(48, 57)]
  else if c = 119 then some [(48, 57), (65, 90), (95, 95), (97, 122)] else if c = 45 ∨ c ∈ spcs then some [(c, c)] else none
def pEscL : List UInt8 → Option (Rng × List UInt8)
  | [] => none
  | d :: r' => (pEsc d).map fun l => (l, r')
def pOne : List UInt8 → Option (Rng × List UInt8)
  | [] => none
  | c :: r =>
    if c < 32 ∨ 126 < c then none
    else if c = 92 then pEscL r
    else if c ∈ insB then none else some ([(c, c)], r)
def isCls : List UInt8 → Bool
  | c :: d :: _ => decide (c = 92) && (decide (d = 100) || decide (d = 119))
  | _ => false
def loR (x : Rng) : UInt8 := (x.getD 0 (0, 0)).1
def pSetL : Nat → Rng → List UInt8 → Option (Rng × List UInt8)
  | 0, _, _ => none
  | n + 1, acc, l =>
    match l with
    | [] => none
    | c :: r =>
      if c = 93 then (if acc = [] then none else some (acc, r))
      else match pOne (c :: r) with
        | none => none
        | some (x, t) =>
          if isCls (c :: r) = false ∧ t.head? = some 45 then
            (if isCls t.tail = true then none
            else match pOne t.tail with
              | none => none
              | some (y, u) => if loR y < loR x then none else pSetL n (acc ++ [(loR x, loR y)]) u)
          else pSetL n (acc ++ x) t
def pSet (l : List UInt8) : Option (Rng × List UInt8) :=
  (pSetL (l.length + 1) [] (if l.head? = some 94 then l.tail else l)).map fun p => (canR (fun j => !(hasI p.1 (j : Nat) == decide (l.head? = some 94))) 256, p.2)
/-! ### escapes -/
theorem spcs_class : ∀ c ∈ spcs, classB c = 1 := by decide
theorem class_spcs {c : UInt8} (h : classB c = 1) : c ∈ spcs := by
  unfold classB at h
  split at h
  · cases h
  · split at h
    · assumption
    · cases h
theorem escOk_eq (c : UInt8) : escOk c = (pEsc c).isSome := by
  unfold escOk pEsc
  by_cases c1 : c = 110
  · simp [c1]
  · by_cases c2 : c = 116
    · simp [c2]
    · by_cases c3 : c = 100
      · simp [c3]
      · by_cases c4 : c = 119
        · simp [c4]
        · simp only [c1, c2, c3, c4, decide_false, Bool.false_or, if_false]
          by_cases c5 : c = 45
          · simp [c5]
          · by_cases c6 : c ∈ spcs
            · simp [c6, spcs_class c c6]
            · have : ¬ classB c = 1 := fun h => c6 (class_spcs h)
              simp [c5, c6, this]
theorem pEsc_F {c : UInt8} {l : Rng} (h : pEsc c = some l) (j : Nat) : hasI l (j : Int) = escF c j := by
  unfold pEsc at h
  by_cases c1 : c = 110
  · subst c1
    cases h
    rw [hasI_pair]
    show _ = decide (j = 10)
    rw [Bool.eq_iff_iff]; simp; omega
  · rw [if_neg c1] at h
    by_cases c2 : c = 116
    · subst c2
      cases h
      rw [hasI_pair]
      show _ = decide (j = 9)
      rw [Bool.eq_iff_iff]; simp; omega
    · rw [if_neg c2] at h
      by_cases c3 : c = 100
      · subst c3
        cases h
        rw [hasI_pair]
        show _ = decide (48 ≤ j ∧ j ≤ 57)
        rw [Bool.eq_iff_iff]; simp
      · rw [if_neg c3] at h
        by_cases c4 : c = 119
        · subst c4
          cases h
          show _ = decide ((48 ≤ j ∧ j ≤ 57) ∨ (97 ≤ j ∧ j ≤ 122) ∨ (65 ≤ j ∧ j ≤ 90) ∨ j = 95)
          rw [show ([(48, 57), (65, 90), (95, 95), (97, 122)] : Rng) = [(48, 57)] ++ ([(65, 90)] ++ ([(95, 95)] ++ [(97, 122)])) from rfl, hasI_app, hasI_app, hasI_app, hasI_pair, hasI_pair, hasI_pair, hasI_pair]
          rw [Bool.eq_iff_iff]; simp; omega
        · rw [if_neg c4] at h
          split at h
          · cases h
            unfold escF
            rw [if_neg c1, if_neg c2, if_neg c3, if_neg c4, hasI_pair, Bool.eq_iff_iff]
            simp; omega
          · cases h
theorem escW : canR (escF 119) 256 = [(48, 57), (65, 90), (95, 95), (97, 122)] := by kernel_rfl
theorem escD : canR (escF 100) 256 = [(48, 57)] := by kernel_rfl
theorem pEsc_can {c : UInt8} {l : Rng} (h : pEsc c = some l) : canR (escF c) 256 = l := by
  by_cases c3 : c = 100
  · subst c3; rw [escD]; unfold pEsc at h; simpa using h
  · by_cases c4 : c = 119
    · subst c4; rw [escW]; unfold pEsc at h; simpa using h
    · have ht := (escLo c).toNat_lt
      rw [escF_one c3 c4, canR_single _ ht 256 (Nat.le_refl _), if_pos ht, UInt8.ofNat_toNat]
      unfold pEsc at h
      unfold escLo
      by_cases c1 : c = 110
      · rw [if_pos c1] at h ⊢; exact Option.some.inj h
      · rw [if_neg c1] at h ⊢
        by_cases c2 : c = 116
        · rw [if_pos c2] at h ⊢; exact Option.some.inj h
        · rw [if_neg c2, if_neg c3, if_neg c4] at h
          rw [if_neg c2]
          split at h
          · exact Option.some.inj h
          · cases h
theorem pEsc_lo {c : UInt8} {l : Rng} (h : pEsc c = some l) (c3 : c ≠ 100) (c4 : c ≠ 119) : loR l = escLo c := by
  unfold pEsc at h
  unfold escLo
  by_cases c1 : c = 110
  · rw [if_pos c1] at h ⊢; cases h; rfl
  · rw [if_neg c1] at h ⊢
    by_cases c2 : c = 116
    · rw [if_pos c2] at h ⊢; cases h; rfl
    · rw [if_neg c2, if_neg c3, if_neg c4] at h
      rw [if_neg c2]
      split at h
      · cases h; rfl
      · cases h
/-! ### one element -/
theorem nextS_cons (c : UInt8) (r : List UInt8) : nextS (c :: r, false) = c := rfl
theorem nextS_nil : nextS ([], false) = 0 := rfl
theorem esc_zero : escOk 0 = false := by decide
theorem one_rel (l : List UInt8) : (pOne l = none → (elemR (l, false)).2 = true) ∧
    ∀ x t, pOne l = some (x, t) → elemR (l, false) = (t, false) ∧ elemV (l, false) = (if isCls l then (0, false) else (loR x, true)) ∧ ∀ j, elemB (l, false) j = hasI x (j : Nat) := by
  cases l with
  | nil =>
    refine ⟨fun _ => ?_, fun x t h => by cases h⟩
    rw [elemR_eq, takesS_nil]
    rw [if_neg (by decide), if_pos (.inr (.inr (takesS_nil _ _)))]
  | cons c r =>
    have hB0 : elemB (c :: r, false) = (elemS (c :: r, false) fun _ => false).2.2 := rfl
    have hV0 : elemV (c :: r, false) = (elemS (c :: r, false) fun _ => false).1 := rfl
    by_cases h92 : c = 92
    · subst h92
      have ht : takesS (92 :: r, false) 92 = true := by rw [takesS_cons]; rfl
      have htk : takeS (92 :: r, false) 92 = (r, false) := takeS_yes _ _
      rw [elemR_eq, if_pos ht, htk, hV0]
      have hp : pOne (92 :: r) = pEscL r := by
        rw [pOne, if_neg (by decide), if_pos rfl]
      rw [hp]
      cases r with
      | nil =>
        refine ⟨fun _ => ?_, fun x t h => by cases h⟩
        rw [nextS_nil, esc_zero]; rfl
      | cons d r' =>
        rw [nextS_cons, takesS_cons, takeS_yes, escOk_eq, pEscL]
        have hB : ∀ j, elemB (92 :: d :: r', false) j = (if (pEsc d).isSome = true then escF d j else false) := fun j => by
          rw [hB0]
          unfold elemS
          rw [if_pos ht, htk, nextS_cons, takesS_cons, takeS_yes, escOk_eq]
          simp only [decide_true, Bool.and_true]
          split
          · simp
          · rfl
        have hV : (elemS (92 :: d :: r', false) fun _ => false).1 = (if (pEsc d).isSome = true then (if d = 100 ∨ d = 119 then (0, false) else (escLo d, true)) else (0, false)) := by
          unfold elemS
          rw [if_pos ht, htk, nextS_cons, takesS_cons, takeS_yes, escOk_eq]
          simp only [decide_true, Bool.and_true]
          split <;> rfl
        rw [hV]
        simp only [hB, decide_true, Bool.and_true]
        cases he : pEsc d with
        | none => exact ⟨fun _ => rfl, fun x t h => by cases h⟩
        | some l0 =>
          refine ⟨fun h => (by cases h), fun x t h => ?_⟩
          simp only [Option.map_some, Option.some.injEq, Prod.mk.injEq] at h
          obtain ⟨rfl, rfl⟩ := h
          refine ⟨rfl, ?_, fun j => (pEsc_F he j).symm⟩
          simp only [Option.isSome_some, if_true]
          have hcls : isCls (92 :: d :: r') = (decide (d = 100) || decide (d = 119)) := by unfold isCls; simp
          rw [hcls]
          by_cases e : d = 100 ∨ d = 119
          · rw [if_pos e, if_pos (by simpa using e)]
          · rw [if_neg e, if_neg (by simpa using e), pEsc_lo he (fun h => e (.inl h)) (fun h => e (.inr h))]
    · have ht : ¬ takesS (c :: r, false) 92 = true := by rw [takesS_cons]; simpa using h92
      have htc : takesS (c :: r, false) c = true := by rw [takesS_cons]; simp
      have hcls : isCls (c :: r) = false := by
        cases r with
        | nil => rfl
        | cons d r => unfold isCls; simp [h92]
      have hins : c ∈ insB ↔ c ∈ ([91, 93, 94, 45] : List UInt8) := by unfold insB; simp [h92]
      rw [elemR_eq, if_neg ht, nextS_cons, htc, takeS_yes, hV0, hcls]
      have hB : ∀ j, elemB (c :: r, false) j = (if classB c = 2 ∨ c ∈ ([91, 93, 94, 45] : List UInt8) then false else decide (j = c.toNat)) := fun j => by
        rw [hB0]
        unfold elemS
        rw [if_neg ht, nextS_cons, htc]
        simp only [Bool.true_eq_false, or_false]
        split
        · rfl
        · simp
      have hV : (elemS (c :: r, false) fun _ => false).1 = (if classB c = 2 ∨ c ∈ ([91, 93, 94, 45] : List UInt8) then (0, false) else (c, true)) := by
        unfold elemS
        rw [if_neg ht, nextS_cons, htc]
        simp only [Bool.true_eq_false, or_false]
        split <;> rfl
      rw [hV]
      simp only [hB, Bool.true_eq_false, or_false]
      have hc2 : classB c = 2 ↔ (c < 32 ∨ 126 < c) := by
        unfold classB
        split
        · simp_all
        · split <;> simp_all
      rw [pOne, if_neg h92]
      by_cases h1 : c < 32 ∨ 126 < c
      · rw [if_pos h1, if_pos (.inl (hc2.2 h1))]
        exact ⟨fun _ => rfl, fun x t h => by cases h⟩
      · rw [if_neg h1]
        by_cases h2 : c ∈ insB
        · rw [if_pos h2, if_pos (.inr (hins.1 h2))]
          exact ⟨fun _ => rfl, fun x t h => by cases h⟩
        · have hn : ¬ (classB c = 2 ∨ c ∈ ([91, 93, 94, 45] : List UInt8)) := fun h => h.elim (fun h => h1 (hc2.1 h)) fun h => h2 (hins.2 h)
          rw [if_neg h2, if_neg hn]
          refine ⟨fun h => (by cases h), fun x t h => ?_⟩
          simp only [Option.some.injEq, Prod.mk.injEq] at h
          obtain ⟨rfl, rfl⟩ := h
          refine ⟨rfl, ?_, fun j => ?_⟩
          · rw [if_neg hn]; rfl
          · rw [if_neg hn, hasI_pair, Bool.eq_iff_iff]; simp; omega
end Go.Ab
namespace Go.Ab
open Go.Proofs

theorem pOne_len {l : List UInt8} {x : Rng} {t : List UInt8} (h : pOne l = some (x, t)) : t.length + 1 ≤ l.length ∧ x ≠ [] := by
  cases l with
  | nil => cases h
  | cons c r =>
    rw [pOne] at h
    split at h
    · cases h
    · split at h
      · cases r with
        | nil => cases h
        | cons d r' =>
          rw [pEscL] at h
          cases he : pEsc d with
          | none => rw [he] at h; cases h
          | some l0 =>
            rw [he] at h
            simp only [Option.map_some, Option.some.injEq, Prod.mk.injEq] at h
            obtain ⟨rfl, rfl⟩ := h
            refine ⟨by simp, fun e => ?_⟩
            subst e
            unfold pEsc at he
            repeat' split at he
            all_goals cases he
      · split at h
        · cases h
        · simp only [Option.some.injEq, Prod.mk.injEq] at h
          obtain ⟨rfl, rfl⟩ := h
          exact ⟨by simp, by simp⟩
theorem pOne_cls {l : List UInt8} {x : Rng} {t : List UInt8} (h : pOne l = some (x, t)) (hc : isCls l = false) : ∃ b, x = [(b, b)] := by
  cases l with
  | nil => cases h
  | cons c r =>
    rw [pOne] at h
    split at h
    · cases h
    · split at h
      · rename_i h92
        subst h92
        cases r with
        | nil => cases h
        | cons d r' =>
          have hd : ¬ (d = 100 ∨ d = 119) := by
            unfold isCls at hc
            simpa using hc
          rw [pEscL] at h
          cases he : pEsc d with
          | none => rw [he] at h; cases h
          | some l0 =>
            rw [he] at h
            simp only [Option.map_some, Option.some.injEq, Prod.mk.injEq] at h
            obtain ⟨rfl, rfl⟩ := h
            unfold pEsc at he
            split at he
            · cases he; exact ⟨10, rfl⟩
            · split at he
              · cases he; exact ⟨9, rfl⟩
              · rw [if_neg (fun e => hd (.inl e)), if_neg (fun e => hd (.inr e))] at he
                split at he
                · cases he; exact ⟨d, rfl⟩
                · cases he
      · split at h
        · cases h
        · simp only [Option.some.injEq, Prod.mk.injEq] at h
          obtain ⟨rfl, rfl⟩ := h
          exact ⟨c, rfl⟩
theorem setL_bad' (n : Nat) (first : Bool) (s : List UInt8) (f : Nat → Bool) : (setL n first (s, true) f).1 = (s, true) := setL_bad n first f rfl
theorem setL_mono : ∀ (n : Nat) (first : Bool) (s : RS) (f g : Nat → Bool), (∀ j, j < 256 → f j = g j) → (setL n first s f).1 = (setL n first s g).1 ∧ ∀ j, j < 256 → (setL n first s f).2 j = (setL n first s g).2 j
  | 0, first, s, f, g, h => ⟨rfl, h⟩
  | n + 1, first, s, f, g, h => by
    rw [setL, setL]
    simp only [elemS_eq]
    split
    · split
      · exact setL_mono n false _ _ _ fun j hj => by rw [h j hj]
      · exact setL_mono n false _ _ _ fun j hj => by rw [h j hj]
    · exact ⟨rfl, h⟩
theorem u8_le_nat {a b : UInt8} : (a < b) ↔ a.toNat < b.toNat := UInt8.lt_iff_toNat_lt
/-- The loop over a set's elements. -/
theorem setL_rel : ∀ (n : Nat) (first : Bool) (l : List UInt8) (acc : Rng) (f : Nat → Bool), l.length + 1 ≤ n → (∀ j, j < 256 → f j = hasI acc (j : Nat)) → (first = true ↔ acc = []) →
    (pSetL n acc l = none → (wantS (setL (n + 1) first (l, false) f).1 93).2 = true) ∧
    ∀ acc' r, pSetL n acc l = some (acc', r) → wantS (setL (n + 1) first (l, false) f).1 93 = (r, false) ∧ ∀ j, j < 256 → (setL (n + 1) first (l, false) f).2 j = hasI acc' (j : Nat)
  | 0, first, l, acc, f, hn, _, _ => by omega
  | n + 1, first, l, acc, f, hn, hf, hfa => by
    have hbad : ∀ (m : Nat) (b : Bool) (s : List UInt8) (g : Nat → Bool), (wantS (setL m b (s, true) g).1 93).2 = true := fun m b s g => by rw [setL_bad']; rfl
    cases l with
    | nil =>
      refine ⟨fun _ => ?_, fun acc' r h => by rw [pSetL] at h; cases h⟩
      rw [setL, nextS_nil]
      have h1 := (one_rel []).1 rfl
      simp only [elemS_eq]
      have e : (!(([] : List UInt8), false).2 && (first || (0 : UInt8) != 93)) = true := by cases first <;> rfl
      rw [if_pos e]
      have e2 : ((elemV ([], false)).2 && takesS (elemR ([], false)) 45) = false := by rw [takesS_of_bad h1, Bool.and_false]
      rw [if_neg (by rw [e2]; decide)]
      generalize elemR ([], false) = q at *
      obtain ⟨q1, q2⟩ := q
      have h1 : q2 = true := h1
      subst h1
      exact hbad _ _ _ _
    | cons c r =>
      rw [pSetL]
      by_cases hc : c = 93
      · subst hc
        rw [if_pos rfl]
        cases first with
        | true =>
          have ha := hfa.1 rfl
          rw [if_pos ha]
          refine ⟨fun _ => ?_, fun acc' r' h => by cases h⟩
          rw [setL]
          simp only [elemS_eq, Bool.true_or, Bool.not_false, Bool.and_self, if_true]
          have h1 := (one_rel (93 :: r)).1 (by rw [pOne, if_neg (by decide), if_neg (by decide), if_pos (by decide)])
          rw [if_neg (by rw [takesS_of_bad h1, Bool.and_false]; decide)]
          generalize elemR (93 :: r, false) = q at *
          obtain ⟨q1, q2⟩ := q
          have h1 : q2 = true := h1
          subst h1
          exact hbad _ _ _ _
        | false =>
          have ha : acc ≠ [] := fun e => by have := hfa.2 e; cases this
          rw [if_neg ha]
          refine ⟨fun h => (by cases h), fun acc' r' h => ?_⟩
          simp only [Option.some.injEq, Prod.mk.injEq] at h
          obtain ⟨rfl, rfl⟩ := h
          have e : setL (n + 1 + 1) false (93 :: r, false) f = ((93 :: r, false), f) := by rw [setL, nextS_cons]; rfl
          rw [e]
          refine ⟨?_, hf⟩
          unfold wantS
          rw [takesS_cons]; rfl
      · rw [if_neg hc]
        have hgo : (!((c :: r, false) : RS).2 && (first || nextS (c :: r, false) != 93)) = true := by
          rw [nextS_cons]
          have : (c != 93) = true := by simpa using hc
          rw [this, Bool.or_true]; rfl
        rw [setL, if_pos hgo]
        simp only [elemS_eq]
        obtain ⟨o1, o2⟩ := one_rel (c :: r)
        cases hp : pOne (c :: r) with
        | none =>
          have h1 := o1 hp
          simp only []
          rw [if_neg (by rw [takesS_of_bad h1, Bool.and_false]; decide)]
          refine ⟨fun _ => ?_, fun acc' r' h => by cases h⟩
          generalize elemR (c :: r, false) = q at *
          obtain ⟨q1, q2⟩ := q
          have h1 : q2 = true := h1
          subst h1
          exact hbad _ _ _ _
        | some p =>
          obtain ⟨x, t⟩ := p
          obtain ⟨e1, e2, e3⟩ := o2 x t hp
          obtain ⟨hlen, hxne⟩ := pOne_len hp
          simp only []
          rw [e1, e2]
          simp only [e3]
          have hlt : t.length + 1 ≤ r.length + 1 := by simpa using hlen
          have hn1 : t.length + 1 ≤ n := by simp at hn; omega
          -- the plain case
          have plain : ∀ b : Bool, b = true ∨ b = false → (pSetL n (acc ++ x) t = none → (wantS (setL (n + 1) false (t, false) fun j => f j || hasI x (j : Nat)).1 93).2 = true) ∧
              ∀ acc' r', pSetL n (acc ++ x) t = some (acc', r') → wantS (setL (n + 1) false (t, false) fun j => f j || hasI x (j : Nat)).1 93 = (r', false) ∧ ∀ j, j < 256 → (setL (n + 1) false (t, false) fun j => f j || hasI x (j : Nat)).2 j = hasI acc' (j : Nat) := fun b _ =>
            setL_rel n false t (acc ++ x) _ hn1 (fun j hj => by rw [hf j hj, hasI_app]) (by simp [hxne])
          cases hcl : isCls (c :: r) with
          | true =>
            rw [if_neg (by simp)]
            simp only [if_true, Bool.false_and, Bool.false_eq_true, if_false]
            exact plain true (.inl rfl)
          | false =>
            simp only [Bool.false_eq_true, if_false, Bool.true_and, true_and]
            cases ht45 : takesS (t, false) 45 with
            | false =>
              have hh : ¬ t.head? = some 45 := by
                intro e
                cases t with
                | nil => cases e
                | cons a t => rw [takesS_cons] at ht45; simp at e; subst e; simp at ht45
              rw [if_neg hh]
              simp only [Bool.false_eq_true, if_false]
              exact plain true (.inl rfl)
            | true =>
              obtain ⟨t2, ht2⟩ := takes_cases ht45
              cases ht2
              rw [if_pos (show (45 :: t2).head? = some (45 : UInt8) from rfl)]
              simp only [if_true, takeS_yes, List.tail_cons]
              obtain ⟨q1, q2⟩ := one_rel t2
              cases hp2 : pOne t2 with
              | none =>
                have h1 := q1 hp2
                have hend : ∀ g, (wantS (setL (n + 1) false (if (elemV (t2, false)).2 = false ∨ (elemV (t2, false)).1 < loR x then ((elemR (t2, false)).1, true) else elemR (t2, false)) g).1 93).2 = true := fun g => by
                  have : (if (elemV (t2, false)).2 = false ∨ (elemV (t2, false)).1 < loR x then ((elemR (t2, false)).1, true) else elemR (t2, false)) = ((elemR (t2, false)).1, true) := by
                    split
                    · rfl
                    · generalize elemR (t2, false) = q at *
                      obtain ⟨a, b⟩ := q
                      have h1 : b = true := h1
                      subst h1; rfl
                  rw [this]
                  exact hbad _ _ _ _
                refine ⟨fun _ => hend _, fun acc' r' h => ?_⟩
                have h' : (if isCls t2 = true then (none : Option (Rng × List UInt8)) else none) = some (acc', r') := h
                simp at h'
              | some p2 =>
                obtain ⟨y, u⟩ := p2
                obtain ⟨g1, g2, g3⟩ := q2 y u hp2
                obtain ⟨hlen2, hyne⟩ := pOne_len hp2
                rw [g1, g2]
                simp only [g3]
                by_cases hcl2 : isCls t2 = true
                · simp only [hcl2, if_true, true_or]
                  exact ⟨fun _ => hbad _ _ _ _, fun acc' r' h => by cases h⟩
                · have hcl2 : isCls t2 = false := by simpa using hcl2
                  simp only [hcl2, Bool.false_eq_true, if_false, Bool.true_eq_false, false_or]
                  by_cases hlo : loR y < loR x
                  · rw [if_pos hlo, if_pos hlo]
                    exact ⟨fun _ => hbad _ _ _ _, fun acc' r' h => by cases h⟩
                  · rw [if_neg hlo, if_neg hlo]
                    obtain ⟨bx, rfl⟩ := pOne_cls hp hcl
                    obtain ⟨by', rfl⟩ := pOne_cls hp2 hcl2
                    have hlo' : bx.toNat ≤ by'.toNat := by
                      have : ¬ by' < bx := hlo
                      rw [u8_le_nat] at this; omega
                    have hn2 : u.length + 1 ≤ n := by simp at hlen hlen2 hn1; omega
                    refine setL_rel n false u (acc ++ [(bx, by')]) _ hn2 (fun j hj => ?_) (by simp)
                    rw [hf j hj, hasI_app, hasI_pair, hasI_pair, hasI_pair]
                    show (_ || (decide (bx.toNat ≤ j) && decide (j ≤ by'.toNat))) = _
                    rw [Bool.eq_iff_iff]
                    simp only [Bool.or_eq_true, Bool.and_eq_true, decide_eq_true_eq]
                    constructor
                    · rintro (((h | h) | h) | h)
                      · exact .inl h
                      · right; omega
                      · right; omega
                      · exact .inr h
                    · rintro (h | h)
                      · exact .inl (.inl (.inl h))
                      · exact .inr h
theorem set_rel (l : List UInt8) : (pSet l = none → (setS (l, false)).2.2 = true) ∧ ∀ x r, pSet l = some (x, r) → setS (l, false) = (x, (r, false)) := by
  have h94 : takesS (l, false) 94 = decide (l.head? = some 94) := by
    cases l with
    | nil => rfl
    | cons c r => rw [takesS_cons]; simp
  have htk : takeS (l, false) 94 = ((if l.head? = some 94 then l.tail else l), false) := by
    unfold takeS
    rw [h94]
    by_cases h : l.head? = some 94
    · simp [h]
    · simp [h]
  have hlen : (if l.head? = some 94 then l.tail else l).length + 1 ≤ l.length + 1 := by
    split <;> simp
  obtain ⟨r1, r2⟩ := setL_rel (l.length + 1) true (if l.head? = some 94 then l.tail else l) [] (fun _ => false) hlen (fun j _ => rfl) (by simp)
  unfold pSet setS
  rw [htk, h94]
  have hl0 : ((l, false) : RS).1.length + 2 = l.length + 1 + 1 := rfl
  rw [hl0]
  cases hp : pSetL (l.length + 1) [] (if l.head? = some 94 then l.tail else l) with
  | none => exact ⟨fun _ => r1 hp, fun x r h => by cases h⟩
  | some p =>
    obtain ⟨acc, t⟩ := p
    obtain ⟨e1, e2⟩ := r2 acc t hp
    refine ⟨fun h => (by cases h), fun x r h => ?_⟩
    simp only [Option.map_some, Option.some.injEq, Prod.mk.injEq] at h
    obtain ⟨rfl, rfl⟩ := h
    rw [e1]
    refine Prod.ext ?_ rfl
    dsimp only
    refine canR_congr fun j hj => ?_
    rw [e2 j hj]
    by_cases h : l.head? = some 94
    · simp [h]
    · simp [h]
end Go.Ab
namespace Go.Ab
open Go.Proofs

def pNumL : Nat → Int → Nat → List UInt8 → Int × Nat × List UInt8
  | 0, n, d, l => (n, d, l)
  | k + 1, n, d, l =>
    match l with
    | [] => (n, d, [])
    | c :: r => if digB c = true then pNumL k (n * 10 + ((c.toNat : Int) - 48)) (d + 1) r else (n, d, c :: r)
def pNum (l : List UInt8) : Option (Int × List UInt8) :=
  if (pNumL 4 0 0 l).2.1 = 0 ∨ 3 < (pNumL 4 0 0 l).2.1 ∨ (l.head? = some 48 ∧ 1 < (pNumL 4 0 0 l).2.1) then none else some ((pNumL 4 0 0 l).1, (pNumL 4 0 0 l).2.2)
def pBr (x : Rx) (l : List UInt8) : Option (Rx × List UInt8) :=
  match pNum l with
  | none => none
  | some (m, t) =>
    match t with
    | [] => none
    | c :: u =>
      if c = 125 then some (repX m m x, u) else if c ≠ 44 then none
      else match u with
        | [] => none
        | d :: v =>
          if d = 125 then some (repX m (-1) x, v)
          else match pNum (d :: v) with
            | none => none
            | some (k, w) => if w.head? = some 125 then some (repX m k x, w.tail) else none
def pRep (x : Rx) (l : List UInt8) : Option (Rx × List UInt8) :=
  match l with
  | [] => some (x, [])
  | c :: r => if c = 42 then some (repX 0 (-1) x, r) else if c = 43 then some (repX 1 (-1) x, r) else if c = 63 then some (repX 0 1 x, r) else if c = 123 then pBr x r else some (x, c :: r)
def pAtom (alt : List UInt8 → Option (Rx × List UInt8)) (l : List UInt8) : Option (Rx × List UInt8) :=
  match l with
  | [] => none
  | c :: r =>
    if c = 40 then (match alt r with
      | none => none
      | some (x, t) => if t.head? = some 41 then some (x, t.tail) else none)
    else if c = 94 then some (leafX 5, r) else if c = 36 then some (leafX 6, r) else if c = 46 then some (setX dotR, r)
    else if c = 91 then (pSet r).map fun p => (setX p.1, p.2)
    else if c = 92 then (match r with
      | [] => none
      | d :: u => if d = 98 then some (leafX 7, u) else (pEsc d).map fun l => (setX l, u))
    else if classB c = 0 then some (setX [(c, c)], r) else none
def pItem (alt : List UInt8 → Option (Rx × List UInt8)) (l : List UInt8) : Option (Rx × List UInt8) := (pAtom alt l).bind fun p => pRep p.1 p.2
def pSeqL (alt : List UInt8 → Option (Rx × List UInt8)) : Nat → List Rx → List UInt8 → Option (List Rx × List UInt8)
  | 0, _, _ => none
  | n + 1, acc, l =>
    if l = [] ∨ l.head? = some 124 ∨ l.head? = some 41 then some (acc, l)
    else match pItem alt l with
      | none => none
      | some (x, t) => pSeqL alt n (acc ++ [x]) t
def pSeq (alt : List UInt8 → Option (Rx × List UInt8)) (l : List UInt8) : Option (Rx × List UInt8) := (pSeqL alt (l.length + 1) [] l).map fun p => (oneX 2 p.1, p.2)
def pAltL (alt : List UInt8 → Option (Rx × List UInt8)) : Nat → List Rx → List UInt8 → Option (List Rx × List UInt8)
  | 0, _, _ => none
  | n + 1, acc, l =>
    if l.head? = some 124 then (match pSeq alt l.tail with
      | none => none
      | some (x, t) => pAltL alt n (acc ++ [x]) t)
    else some (acc, l)
def pAlt : Nat → List UInt8 → Option (Rx × List UInt8)
  | 0, _ => none
  | n + 1, l => (pSeq (pAlt n) l).bind fun p => (pAltL (pAlt n) (l.length + 1) [p.1] p.2).map fun q => (oneX 3 q.1, q.2)

/-! ### numbers -/
theorem digB_0 : digB 0 = false := by decide
theorem numL_nil (k : Nat) (n d : Int) : numL k n d ([], false) = (n, d, ([], false)) := by
  cases k with
  | zero => rfl
  | succ k => rw [numL, nextS_nil, digB_0]; rfl
theorem numL_cons (k : Nat) (n d : Int) (c : UInt8) (r : List UInt8) : numL (k + 1) n d (c :: r, false) = if digB c = true then (if d = 3 ∨ (0 < d ∧ n = 0) then (n, d, (c :: r, false)) else numL k (10 * n + ((c.toNat : Int) - 48)) (d + 1) (r, false)) else (n, d, (c :: r, false)) := by
  rw [numL, nextS_cons, takeS_yes]
theorem dig_num {c : UInt8} (h : digB c = true) : 48 ≤ c.toNat ∧ c.toNat ≤ 57 := by
  unfold digB at h
  simp only [Bool.and_eq_true, decide_eq_true_eq, UInt8.le_iff_toNat_le] at h
  exact h
/-- A digit stands where the reader stops. -/
def DigAt (s : RS) : Prop := ∃ c r, s = (c :: r, false) ∧ digB c = true
theorem numL_go {k : Nat} {n d : Int} {c : UInt8} {r : List UInt8} (h : digB c = true) (h1 : ¬ (d = 3 ∨ (0 < d ∧ n = 0))) : numL (k + 1) n d (c :: r, false) = numL k (10 * n + ((c.toNat : Int) - 48)) (d + 1) (r, false) := by rw [numL_cons, if_pos h, if_neg h1]
theorem numL_full {k : Nat} {n d : Int} {c : UInt8} {r : List UInt8} (h : digB c = true) (h1 : d = 3 ∨ (0 < d ∧ n = 0)) : numL (k + 1) n d (c :: r, false) = (n, d, (c :: r, false)) := by rw [numL_cons, if_pos h, if_pos h1]
theorem numL_stop {k : Nat} {n d : Int} {c : UInt8} {r : List UInt8} (h : ¬ digB c = true) : numL (k + 1) n d (c :: r, false) = (n, d, (c :: r, false)) := by rw [numL_cons, if_neg h]
theorem pNumL_go {k : Nat} {n : Int} {d : Nat} {c : UInt8} {r : List UInt8} (h : digB c = true) : pNumL (k + 1) n d (c :: r) = pNumL k (n * 10 + ((c.toNat : Int) - 48)) (d + 1) r := by rw [pNumL, if_pos h]
theorem pNumL_stop {k : Nat} {n : Int} {d : Nat} {c : UInt8} {r : List UInt8} (h : ¬ digB c = true) : pNumL (k + 1) n d (c :: r) = (n, d, c :: r) := by rw [pNumL, if_neg h]
theorem pNumL_nil {k : Nat} {n : Int} {d : Nat} : pNumL k n d [] = (n, d, []) := by cases k <;> rfl
theorem pNumL_ge : ∀ (k : Nat) (n : Int) (d : Nat) (l : List UInt8), d ≤ (pNumL k n d l).2.1
  | 0, n, d, l => Nat.le_refl _
  | k + 1, n, d, [] => Nat.le_refl _
  | k + 1, n, d, c :: r => by
    by_cases h : digB c = true
    · rw [pNumL_go h]; exact Nat.le_trans (Nat.le_succ d) (pNumL_ge k _ _ r)
    · rw [pNumL_stop h]; exact Nat.le_refl _
def NumGoal (l : List UInt8) : Prop := (pNum l = none → (numS (l, false)).2.2 = true ∨ DigAt (numS (l, false)).2) ∧ ∀ n r, pNum l = some (n, r) → numS (l, false) = (n, (r, false))
theorem num_ok {l r : List UInt8} {n : Int} {d : Nat} (hp : pNumL 4 0 0 l = (n, d, r)) (hs : numL 4 0 0 (l, false) = (n, (d : Int), (r, false))) (h1 : 1 ≤ d) (h3 : d ≤ 3) (hz : l.head? = some 48 → d ≤ 1) : NumGoal l := by
  unfold NumGoal pNum numS
  rw [hp, hs]
  have hc : ¬ (d = 0 ∨ 3 < d ∨ (l.head? = some 48 ∧ 1 < d)) := by
    rintro (h | h | ⟨h, h'⟩)
    · omega
    · omega
    · have := hz h; omega
  rw [if_neg hc]
  refine ⟨fun h => (by cases h), fun n' r' h => ?_⟩
  simp only [Option.some.injEq, Prod.mk.injEq] at h
  obtain ⟨rfl, rfl⟩ := h
  have : decide ((d : Int) = 0) = false := by rw [decide_eq_false]; omega
  rw [this]; rfl
theorem num_dig {l r : List UInt8} {n : Int} {d : Int} {c : UInt8} (hp : 3 < (pNumL 4 0 0 l).2.1 ∨ (l.head? = some 48 ∧ 1 < (pNumL 4 0 0 l).2.1)) (hs : numL 4 0 0 (l, false) = (n, d, (c :: r, false))) (hd : 1 ≤ d) (hc : digB c = true) : NumGoal l := by
  unfold NumGoal pNum numS
  rw [if_pos (.inr hp), hs]
  refine ⟨fun _ => .inr ⟨c, r, ?_, hc⟩, fun n' r' h => by cases h⟩
  have : decide (d = 0) = false := by rw [decide_eq_false]; omega
  rw [this]; rfl
theorem num_rel (l : List UInt8) : NumGoal l := by
  cases l with
  | nil =>
    unfold NumGoal pNum numS
    rw [numL_nil, pNumL_nil]
    exact ⟨fun _ => .inl rfl, fun n r h => by simp at h⟩
  | cons a l =>
    by_cases da : digB a = true
    · have na := dig_num da
      have s1 : numL 4 0 0 (a :: l, false) = numL 3 ((a.toNat : Int) - 48) 1 (l, false) := by rw [numL_go da (by omega)]; simp
      have p1 : pNumL 4 0 0 (a :: l) = pNumL 3 ((a.toNat : Int) - 48) 1 l := by rw [pNumL_go da]; simp
      cases l with
      | nil => exact num_ok (p1.trans pNumL_nil) (s1.trans (numL_nil _ _ _)) (by omega) (by omega) (fun _ => by omega)
      | cons b l =>
        by_cases db : digB b = true
        · have nb := dig_num db
          by_cases ha : a = 48
          · subst ha
            refine num_dig (c := b) (r := l) (.inr ⟨rfl, ?_⟩) (s1.trans (numL_full db (.inr ⟨by omega, by decide⟩))) (by omega) db
            rw [p1, pNumL_go db]
            exact pNumL_ge _ _ _ _
          · have han : a.toNat ≠ 48 := fun e => ha (UInt8.toNat_inj.1 (by rw [e]; rfl))
            have hh : ¬ ((a :: b :: l).head? = some 48) := by simpa using ha
            have s2 := s1.trans (numL_go (k := 2) (n := (a.toNat : Int) - 48) (d := 1) (c := b) (r := l) db (by omega))
            have p2 := p1.trans (pNumL_go (k := 2) (n := (a.toNat : Int) - 48) (d := 1) (c := b) (r := l) db)
            rw [Int.mul_comm 10] at s2
            cases l with
            | nil => exact num_ok (p2.trans pNumL_nil) (s2.trans (numL_nil _ _ _)) (by omega) (by omega) (fun h => absurd h hh)
            | cons c l =>
              by_cases dc : digB c = true
              · have nc := dig_num dc
                have s3 := s2.trans (numL_go (k := 1) (d := 1 + 1) (c := c) (r := l) dc (by omega))
                have p3 := p2.trans (pNumL_go (k := 1) (d := 1 + 1) (c := c) (r := l) dc)
                rw [Int.mul_comm 10] at s3
                cases l with
                | nil => exact num_ok (p3.trans pNumL_nil) (s3.trans (numL_nil _ _ _)) (by omega) (by omega) (fun h => absurd h hh)
                | cons e l =>
                  by_cases de : digB e = true
                  · refine num_dig (c := e) (r := l) (.inl ?_) (s3.trans (numL_full (k := 0) de (.inl (by omega)))) (by omega) de
                    rw [p3, pNumL_go de]
                    exact pNumL_ge _ _ _ _
                  · exact num_ok (p3.trans (pNumL_stop de)) (s3.trans (numL_stop de)) (by omega) (by omega) (fun h => absurd h hh)
              · exact num_ok (p2.trans (pNumL_stop dc)) (s2.trans (numL_stop dc)) (by omega) (by omega) (fun h => absurd h hh)
        · exact num_ok (p1.trans (pNumL_stop db)) (s1.trans (numL_stop db)) (by omega) (by omega) (fun _ => by omega)
    · unfold NumGoal pNum numS
      rw [numL_stop da, pNumL_stop da]
      exact ⟨fun _ => .inl rfl, fun n r h => by simp at h⟩
theorem wantS_dig {s : RS} (h : s.2 = true ∨ DigAt s) {c : UInt8} (hc : c = 125 ∨ c = 44) : takesS s c = false ∧ (wantS s c).2 = true := by
  rcases h with h | ⟨d, r, rfl, hd⟩
  · exact ⟨takesS_of_bad h c, wantS_bad h c⟩
  · have hn := dig_num hd
    have : takesS (d :: r, false) c = false := by
      rw [takesS_cons, decide_eq_false]
      rintro rfl
      rcases hc with rfl | rfl <;> simp at hn
    exact ⟨this, by unfold wantS; rw [this]; rfl⟩
theorem wantS_head (t : List UInt8) (c : UInt8) : wantS (t, false) c = if t.head? = some c then (t.tail, false) else (t, true) := by
  unfold wantS
  cases t with
  | nil => rw [takesS_nil]; rfl
  | cons a t =>
    rw [takesS_cons]
    by_cases h : a = c
    · subst h; simp
    · simp [h]
theorem takesS_head (t : List UInt8) (c : UInt8) : takesS (t, false) c = decide (t.head? = some c) := by
  cases t with
  | nil => rw [takesS_nil]; simp
  | cons a t => rw [takesS_cons]; simp
theorem br_rel (x : Rx) (l : List UInt8) : (pBr x l = none → (brS x (l, false)).2.2 = true) ∧ ∀ y r, pBr x l = some (y, r) → brS x (l, false) = (y, (r, false)) := by
  obtain ⟨n1, n2⟩ := num_rel l
  unfold pBr brS
  cases hp : pNum l with
  | none =>
    have h := n1 hp
    obtain ⟨w1, w2⟩ := wantS_dig h (c := 44) (.inr rfl)
    obtain ⟨w3, w4⟩ := wantS_dig h (c := 125) (.inl rfl)
    rw [if_neg (by rw [w1]; decide)]
    exact ⟨fun _ => w4, fun y r h => by cases h⟩
  | some p =>
    obtain ⟨m, t⟩ := p
    have e := n2 m t hp
    rw [e]
    simp only [takesS_head]
    cases t with
    | nil =>
      simp only []
      exact ⟨fun _ => rfl, fun y r h => by cases h⟩
    | cons c u =>
      simp only []
      by_cases h1 : c = 125
      · subst h1
        rw [if_pos rfl, if_neg (by simp)]
        refine ⟨fun h => (by cases h), fun y r h => ?_⟩
        simp only [Option.some.injEq, Prod.mk.injEq] at h
        obtain ⟨rfl, rfl⟩ := h
        rw [wantS_head, if_pos (show (125 :: u).head? = some (125 : UInt8) from rfl)]; rfl
      · rw [if_neg h1]
        by_cases h2 : c = 44
        · subst h2
          rw [if_neg (by simp), if_pos (by simp), takeS_yes]
          cases u with
          | nil =>
            simp only []
            rw [nextS_nil, if_neg (by decide)]
            refine ⟨fun _ => ?_, fun y r h => by cases h⟩
            have : numS ([], false) = (0, ([], true)) := by decide
            rw [this]
            rfl
          | cons d v =>
            simp only []
            rw [nextS_cons]
            by_cases h3 : d = 125
            · subst h3
              rw [if_pos rfl, if_pos rfl]
              refine ⟨fun h => (by cases h), fun y r h => ?_⟩
              simp only [Option.some.injEq, Prod.mk.injEq] at h
              obtain ⟨rfl, rfl⟩ := h
              rw [wantS_head, if_pos (show (125 :: v).head? = some (125 : UInt8) from rfl)]; rfl
            · rw [if_neg h3, if_neg h3]
              obtain ⟨k1, k2⟩ := num_rel (d :: v)
              cases hp2 : pNum (d :: v) with
              | none =>
                obtain ⟨w3, w4⟩ := wantS_dig (k1 hp2) (c := 125) (.inl rfl)
                exact ⟨fun _ => w4, fun y r h => by cases h⟩
              | some q =>
                obtain ⟨k, w⟩ := q
                rw [k2 k w hp2]
                simp only [wantS_head]
                by_cases h4 : w.head? = some 125
                · rw [if_pos h4, if_pos h4]
                  refine ⟨fun h => (by cases h), fun y r h => ?_⟩
                  simp only [Option.some.injEq, Prod.mk.injEq] at h
                  obtain ⟨rfl, rfl⟩ := h
                  rfl
                · rw [if_neg h4, if_neg h4]
                  exact ⟨fun _ => rfl, fun y r h => by cases h⟩
        · rw [if_pos h2, if_neg (by simp [h2]), wantS_head, if_neg (by simp [h1])]
          exact ⟨fun _ => rfl, fun y r h => by cases h⟩
theorem rep_rel (x : Rx) (l : List UInt8) : (pRep x l = none → (repS x (l, false)).2.2 = true) ∧ ∀ y r, pRep x l = some (y, r) → repS x (l, false) = (y, (r, false)) := by
  unfold pRep repS
  simp only [takesS_head]
  cases l with
  | nil =>
    refine ⟨fun h => (by cases h), fun y r h => ?_⟩
    simp only [Option.some.injEq, Prod.mk.injEq] at h
    obtain ⟨rfl, rfl⟩ := h
    rfl
  | cons c r =>
    simp only [List.head?_cons, Option.some.injEq, decide_eq_true_eq]
    by_cases h1 : c = 42
    · subst h1
      rw [if_pos rfl, if_pos rfl, takeS_yes]
      exact ⟨fun h => (by cases h), fun y r h => by simp only [Option.some.injEq, Prod.mk.injEq] at h; obtain ⟨rfl, rfl⟩ := h; rfl⟩
    · rw [if_neg h1, if_neg h1]
      by_cases h2 : c = 43
      · subst h2
        rw [if_pos rfl, if_pos rfl, takeS_yes]
        exact ⟨fun h => (by cases h), fun y r h => by simp only [Option.some.injEq, Prod.mk.injEq] at h; obtain ⟨rfl, rfl⟩ := h; rfl⟩
      · rw [if_neg h2, if_neg h2]
        by_cases h3 : c = 63
        · subst h3
          rw [if_pos rfl, if_pos rfl, takeS_yes]
          exact ⟨fun h => (by cases h), fun y r h => by simp only [Option.some.injEq, Prod.mk.injEq] at h; obtain ⟨rfl, rfl⟩ := h; rfl⟩
        · rw [if_neg h3, if_neg h3]
          by_cases h4 : c = 123
          · subst h4
            rw [if_pos rfl, if_pos rfl, takeS_yes]
            exact br_rel x r
          · rw [if_neg h4, if_neg h4]
            exact ⟨fun h => (by cases h), fun y r h => by simp only [Option.some.injEq, Prod.mk.injEq] at h; obtain ⟨rfl, rfl⟩ := h; rfl⟩
/-! ### the rest -/
/-- A reader reads as the plain parser does, on shorter strings. -/
def RelN (N : Nat) (F : RS → Rx × RS) (p : List UInt8 → Option (Rx × List UInt8)) : Prop :=
  ∀ l : List UInt8, l.length < N → (p l = none → (F (l, false)).2.2 = true) ∧ ∀ x r, p l = some (x, r) → F (l, false) = (x, (r, false))
theorem atom_rel {N : Nat} {alt : RS → Rx × RS} {p : List UInt8 → Option (Rx × List UInt8)} (h : RelN N alt p) : RelN (N + 1) (atomS alt) (pAtom p) := fun l hl => by
  unfold atomS pAtom
  simp only [takesS_head]
  cases l with
  | nil =>
    refine ⟨fun _ => ?_, fun x r h => by cases h⟩
    rfl
  | cons c r =>
    have ok : ∀ {x : Rx} {r : List UInt8}, (some (x, r) = (none : Option (Rx × List UInt8)) → (x, ((r, false) : RS)).2.2 = true) ∧ ∀ y t, some (x, r) = some (y, t) → (x, ((r, false) : RS)) = (y, (t, false)) := fun {x r} =>
      ⟨fun h => (by cases h), fun y t h => by simp only [Option.some.injEq, Prod.mk.injEq] at h; obtain ⟨rfl, rfl⟩ := h; rfl⟩
    simp only [List.head?_cons, Option.some.injEq, decide_eq_true_eq]
    by_cases h40 : c = 40
    · subst h40
      rw [if_pos rfl, if_pos rfl, takeS_yes]
      obtain ⟨a1, a2⟩ := h r (by simp at hl; omega)
      cases hp : p r with
      | none =>
        refine ⟨fun _ => wantS_bad (a1 hp) _, fun x r h => by cases h⟩
      | some q =>
        obtain ⟨x, t⟩ := q
        rw [a2 x t hp]
        simp only [wantS_head]
        by_cases h41 : t.head? = some 41
        · rw [if_pos h41, if_pos h41]; exact ok
        · rw [if_neg h41, if_neg h41]
          exact ⟨fun _ => rfl, fun x r h => by cases h⟩
    · rw [if_neg h40, if_neg h40]
      by_cases h94 : c = 94
      · subst h94; rw [if_pos rfl, if_pos rfl, takeS_yes]; exact ok
      · rw [if_neg h94, if_neg h94]
        by_cases h36 : c = 36
        · subst h36; rw [if_pos rfl, if_pos rfl, takeS_yes]; exact ok
        · rw [if_neg h36, if_neg h36]
          by_cases h46 : c = 46
          · subst h46; rw [if_pos rfl, if_pos rfl, takeS_yes]; exact ok
          · rw [if_neg h46, if_neg h46]
            by_cases h91 : c = 91
            · subst h91
              rw [if_pos rfl, if_pos rfl, takeS_yes]
              obtain ⟨s1, s2⟩ := set_rel r
              cases hp : pSet r with
              | none => exact ⟨fun _ => s1 hp, fun x r h => by cases h⟩
              | some q =>
                obtain ⟨x, t⟩ := q
                rw [s2 x t hp]
                exact ok
            · rw [if_neg h91, if_neg h91]
              by_cases h92 : c = 92
              · subst h92
                rw [if_pos rfl, if_pos rfl, takeS_yes]
                cases r with
                | nil =>
                  refine ⟨fun _ => ?_, fun x r h => by cases h⟩
                  rfl
                | cons d u =>
                  simp only [List.head?_cons, Option.some.injEq, decide_eq_true_eq, nextS_cons]
                  by_cases h98 : d = 98
                  · subst h98; rw [if_pos rfl, if_pos (by rw [takesS_cons]; rfl), takeS_yes]; exact ok
                  · rw [if_neg h98, if_neg (by rw [takesS_cons]; simpa using h98)]
                    cases he : pEsc d with
                    | none =>
                      have hc : (escOk d && takesS (d :: u, false) d) = false := by rw [escOk_eq, he]; rfl
                      simp only [hc, Bool.false_eq_true, if_false]
                      exact ⟨fun _ => trivial, fun x r h => by cases h⟩
                    | some l0 =>
                      have hc : (escOk d && takesS (d :: u, false) d) = true := by rw [escOk_eq, he, takesS_cons]; simp
                      simp only [hc, if_true, pEsc_can he, takeS_yes]
                      exact ok
              · rw [if_neg h92, if_neg h92, nextS_cons, takeS_yes]
                by_cases hc : classB c = 0
                · rw [if_pos hc, if_pos ⟨hc, by simp⟩]; exact ok
                · rw [if_neg hc, if_neg (fun h => hc h.1)]
                  exact ⟨fun _ => rfl, fun x r h => by cases h⟩
theorem item_rel {N : Nat} {alt : RS → Rx × RS} {p : List UInt8 → Option (Rx × List UInt8)} (h : RelN N alt p) : RelN (N + 1) (itemS alt) (pItem p) := fun l hl => by
  obtain ⟨a1, a2⟩ := atom_rel h l hl
  unfold itemS pItem
  cases hp : pAtom p l with
  | none =>
    have hb := a1 hp
    refine ⟨fun _ => ?_, fun x r h => by cases h⟩
    rw [repS_bad _ hb]; exact hb
  | some q =>
    obtain ⟨x, t⟩ := q
    rw [a2 x t hp]
    exact rep_rel x t
theorem pItem_len {N : Nat} {alt : RS → Rx × RS} {p : List UInt8 → Option (Rx × List UInt8)} (ha : ∀ s, (alt s).2.1.length ≤ s.1.length) (h : RelN N alt p) {l : List UInt8} (hl : l.length < N + 1) {x : Rx} {t : List UInt8} (hp : pItem p l = some (x, t)) : t.length + 1 ≤ l.length := by
  have e := (item_rel h l hl).2 x t hp
  rcases itemS_prog ha (l, false) with hb | hb
  · rw [e] at hb; cases hb
  · rw [e] at hb; exact hb
theorem seqL_rel {N : Nat} {alt : RS → Rx × RS} {p : List UInt8 → Option (Rx × List UInt8)} (ha : ∀ s, (alt s).2.1.length ≤ s.1.length) (h : RelN N alt p) : ∀ (n : Nat) (acc : List Rx) (l : List UInt8), l.length < N + 1 → l.length + 1 ≤ n →
    (pSeqL p n acc l = none → (seqL alt (n + 1) acc (l, false)).2.2 = true) ∧ ∀ a r, pSeqL p n acc l = some (a, r) → seqL alt (n + 1) acc (l, false) = (a, (r, false))
  | 0, acc, l, _, hn => by omega
  | n + 1, acc, l, hl, hn => by
    rw [pSeqL, seqL]
    by_cases hg : l = [] ∨ l.head? = some 124 ∨ l.head? = some 41
    · have hs : seqGo (l, false) = false := by
        unfold seqGo
        cases l with
        | nil => rfl
        | cons c r =>
          rw [nextS_cons]
          simp at hg
          rcases hg with rfl | rfl <;> simp
      rw [if_pos hg, if_neg (by rw [hs]; decide)]
      exact ⟨fun h => (by cases h), fun a r h => by simp only [Option.some.injEq, Prod.mk.injEq] at h; obtain ⟨rfl, rfl⟩ := h; rfl⟩
    · have hs : seqGo (l, false) = true := by
        unfold seqGo
        cases l with
        | nil => exact absurd (.inl rfl) hg
        | cons c r =>
          rw [nextS_cons]
          simp at hg
          simp [hg]
      rw [if_neg hg, if_pos hs]
      obtain ⟨i1, i2⟩ := item_rel h l hl
      cases hp : pItem p l with
      | none =>
        have hb := i1 hp
        refine ⟨fun _ => ?_, fun a r h => by cases h⟩
        rw [seqL_bad _ _ _ hb]; exact hb
      | some q =>
        obtain ⟨x, t⟩ := q
        have hlen := pItem_len ha h hl hp
        rw [i2 x t hp]
        exact seqL_rel ha h n (acc ++ [x]) t (by omega) (by omega)
theorem seq_rel {N : Nat} {alt : RS → Rx × RS} {p : List UInt8 → Option (Rx × List UInt8)} (ha : ∀ s, (alt s).2.1.length ≤ s.1.length) (h : RelN N alt p) : RelN (N + 1) (seqS alt) (pSeq p) := fun l hl => by
  obtain ⟨s1, s2⟩ := seqL_rel ha h (l.length + 1) [] l hl (Nat.le_refl _)
  unfold seqS pSeq
  have e0 : ((l, false) : RS).1.length + 2 = l.length + 1 + 1 := rfl
  rw [e0]
  cases hp : pSeqL p (l.length + 1) [] l with
  | none => exact ⟨fun _ => s1 hp, fun x r h => by cases h⟩
  | some q =>
    obtain ⟨a, t⟩ := q
    rw [s2 a t hp]
    exact ⟨fun h => (by cases h), fun x r h => by simp only [Option.map_some, Option.some.injEq, Prod.mk.injEq] at h; obtain ⟨rfl, rfl⟩ := h; rfl⟩
theorem altL_rel {N : Nat} {alt : RS → Rx × RS} {p : List UInt8 → Option (Rx × List UInt8)} (ha : ∀ s, (alt s).2.1.length ≤ s.1.length) (h : RelN N alt p) : ∀ (n : Nat) (acc : List Rx) (l : List UInt8), l.length < N + 1 → l.length + 1 ≤ n →
    (pAltL p n acc l = none → (altL alt (n + 1) acc (l, false)).2.2 = true) ∧ ∀ a r, pAltL p n acc l = some (a, r) → altL alt (n + 1) acc (l, false) = (a, (r, false))
  | 0, acc, l, _, hn => by omega
  | n + 1, acc, l, hl, hn => by
    rw [pAltL, altL, takesS_head]
    by_cases hg : l.head? = some 124
    · cases l with
      | nil => cases hg
      | cons c r =>
        simp only [List.head?_cons, Option.some.injEq] at hg
        subst hg
        rw [if_pos (show (124 :: r).head? = some (124 : UInt8) from rfl), if_pos (by simp), takeS_yes]
        simp only [List.tail_cons]
        have hlr : r.length < N + 1 := by simp at hl; omega
        obtain ⟨s1, s2⟩ := seq_rel ha h r hlr
        cases hp : pSeq p r with
        | none =>
          have hb := s1 hp
          refine ⟨fun _ => ?_, fun a r h => by cases h⟩
          rw [altL_bad _ _ _ hb]; exact hb
        | some q =>
          obtain ⟨x, t⟩ := q
          have e := s2 x t hp
          have hlen := seqS_len ha (r, false)
          rw [e] at hlen ⊢
          have hlen : t.length ≤ r.length := hlen
          exact altL_rel ha h n (acc ++ [x]) t (by omega) (by simp at hn; omega)
    · rw [if_neg hg, if_neg (by simpa using hg)]
      exact ⟨fun h => (by cases h), fun a r h => by simp only [Option.some.injEq, Prod.mk.injEq] at h; obtain ⟨rfl, rfl⟩ := h; rfl⟩
theorem alt_rel : ∀ n, RelN n (altS n) (pAlt n)
  | 0 => fun l hl => by omega
  | n + 1 => fun l hl => by
    have ih := alt_rel n
    obtain ⟨s1, s2⟩ := seq_rel (altS_len n) ih l hl
    rw [altS, pAlt]
    have e0 : ((l, false) : RS).1.length + 2 = l.length + 1 + 1 := rfl
    rw [e0]
    cases hp : pSeq (pAlt n) l with
    | none =>
      have hb := s1 hp
      refine ⟨fun _ => ?_, fun x r h => by cases h⟩
      rw [altL_bad _ _ _ hb]; exact hb
    | some q =>
      obtain ⟨x, t⟩ := q
      have e := s2 x t hp
      have hlen := seqS_len (altS_len n) (l, false)
      rw [e] at hlen ⊢
      have hlen : t.length ≤ l.length := hlen
      obtain ⟨a1, a2⟩ := altL_rel (altS_len n) ih (l.length + 1) [x] t (by omega) (by omega)
      simp only [Option.bind_some]
      cases hq : pAltL (pAlt n) (l.length + 1) [x] t with
      | none => exact ⟨fun _ => a1 hq, fun x r h => by cases h⟩
      | some q2 =>
        obtain ⟨a, u⟩ := q2
        rw [a2 a u hq]
        exact ⟨fun h => (by cases h), fun x r h => by simp only [Option.map_some, Option.some.injEq, Prod.mk.injEq] at h; obtain ⟨rfl, rfl⟩ := h; rfl⟩
end Go.Ab
namespace Go.Ab
open Go.Proofs

/-! ### bytes and sets -/
theorem insB_esc : ∀ b ∈ insB, pEsc b = some [(b, b)] ∧ ¬ (b = 100 ∨ b = 119) := by decide
theorem spcs_esc : ∀ b ∈ spcs, pEsc b = some [(b, b)] ∧ b ≠ 98 := by decide
theorem vis_cases {b : UInt8} (h : visB b = true) (h1 : b ≠ 9) (h2 : b ≠ 10) : ¬ (b < 32 ∨ 126 < b) := by
  unfold visB at h
  simp only [h1, h2, decide_false, Bool.false_or, Bool.and_eq_true, decide_eq_true_eq, UInt8.le_iff_toNat_le] at h
  simp only [UInt8.lt_iff_toNat_lt]
  omega
theorem one_wr {b : UInt8} (h : visB b = true) (r : List UInt8) : pOne (wrB b insB ++ r) = some ([(b, b)], r) ∧ isCls (wrB b insB ++ r) = false ∧ ∃ c t, wrB b insB = c :: t ∧ c ≠ 45 ∧ c ≠ 93 ∧ c ≠ 94 := by
  unfold wrB
  by_cases h9 : b = 9
  · subst h9
    rw [if_pos rfl]
    refine ⟨?_, rfl, 92, [116], rfl, by decide, by decide, by decide⟩
    show pOne (92 :: 116 :: r) = _
    rw [pOne, if_neg (by decide), if_pos rfl, pEscL]; rfl
  · rw [if_neg h9]
    by_cases h10 : b = 10
    · subst h10
      rw [if_pos rfl]
      refine ⟨?_, rfl, 92, [110], rfl, by decide, by decide, by decide⟩
      show pOne (92 :: 110 :: r) = _
      rw [pOne, if_neg (by decide), if_pos rfl, pEscL]; rfl
    · rw [if_neg h10]
      have hv := vis_cases h h9 h10
      by_cases hi : b ∈ insB
      · rw [if_pos hi]
        obtain ⟨e1, e2⟩ := insB_esc b hi
        refine ⟨?_, ?_, 92, [b], rfl, by decide, by decide, by decide⟩
        · show pOne (92 :: b :: r) = _
          rw [pOne, if_neg (by decide), if_pos rfl, pEscL, e1]; rfl
        · show isCls (92 :: b :: r) = false
          unfold isCls
          simpa using e2
      · rw [if_neg hi]
        have h92 : b ≠ 92 := fun e => hi (by rw [e]; decide)
        refine ⟨?_, ?_, b, [], rfl, fun e => hi (by rw [e]; decide), fun e => hi (by rw [e]; decide), fun e => hi (by rw [e]; decide)⟩
        · show pOne (b :: r) = _
          rw [pOne, if_neg hv, if_neg h92, if_neg hi]
        · show isCls (b :: r) = false
          cases r with
          | nil => rfl
          | cons d r => unfold isCls; simp [h92]
def okR (r : UInt8 × UInt8) : Prop := visB r.1 = true ∧ visB r.2 = true ∧ r.1.toNat ≤ r.2.toNat
theorem more_head (l : Rng) (hl : ∀ r ∈ l, okR r) (rest : List UInt8) : ∃ c t, l.flatMap inR ++ 93 :: rest = c :: t ∧ c ≠ 45 ∧ c ≠ 94 := by
  cases l with
  | nil => exact ⟨93, rest, rfl, by decide, by decide⟩
  | cons r l =>
    obtain ⟨_, _, c, t, e, h1, h2, h3⟩ := one_wr (hl r List.mem_cons_self).1 []
    refine ⟨c, t ++ ((if r.1 < r.2 then 45 :: wrB r.2 insB else []) ++ (l.flatMap inR ++ 93 :: rest)), ?_, h1, h3⟩
    rw [List.flatMap_cons]
    unfold inR
    rw [e]; simp
theorem setL_rt (rest : List UInt8) : ∀ (l acc : Rng) (n : Nat), (∀ r ∈ l, okR r) → (acc ≠ [] ∨ l ≠ []) → (l.flatMap inR ++ 93 :: rest).length ≤ n → pSetL n acc (l.flatMap inR ++ 93 :: rest) = some (acc ++ l, rest)
  | [], acc, n, _, h, hn => by
    cases n with
    | zero => simp at hn
    | succ n =>
      have ha : acc ≠ [] := h.elim id fun h => absurd rfl h
      show pSetL (n + 1) acc (93 :: rest) = _
      rw [pSetL, if_pos rfl, if_neg ha, List.append_nil]
  | r :: l, acc, n, hr, h, hn => by
    cases n with
    | zero => simp at hn
    | succ n =>
      obtain ⟨v1, v2, v3⟩ := hr r List.mem_cons_self
      have hl : ∀ q ∈ l, okR q := fun q hq => hr q (List.mem_cons_of_mem _ hq)
      obtain ⟨mc, mt, me, m1, _⟩ := more_head l hl rest
      obtain ⟨p1, p2, c, t, e, c1, c2, c3⟩ := one_wr v1 ((if r.1 < r.2 then 45 :: wrB r.2 insB else []) ++ (l.flatMap inR ++ 93 :: rest))
      have et : (r :: l).flatMap inR ++ 93 :: rest = wrB r.1 insB ++ ((if r.1 < r.2 then 45 :: wrB r.2 insB else []) ++ (l.flatMap inR ++ 93 :: rest)) := by
        rw [List.flatMap_cons]; unfold inR; simp
      have ec : wrB r.1 insB ++ ((if r.1 < r.2 then 45 :: wrB r.2 insB else []) ++ (l.flatMap inR ++ 93 :: rest)) = c :: (t ++ ((if r.1 < r.2 then 45 :: wrB r.2 insB else []) ++ (l.flatMap inR ++ 93 :: rest))) := by rw [e]; rfl
      rw [et] at hn ⊢
      rw [ec] at p1 p2 hn ⊢
      rw [pSetL, if_neg c2, p1]
      simp only []
      have hlen : (l.flatMap inR ++ 93 :: rest).length ≤ n := by
        simp only [List.length_cons, List.length_append] at hn ⊢
        omega
      by_cases hlt : r.1 < r.2
      · obtain ⟨q1, q2, _⟩ := one_wr v2 (l.flatMap inR ++ 93 :: rest)
        have e3 : (if r.1 < r.2 then 45 :: wrB r.2 insB else []) ++ (l.flatMap inR ++ 93 :: rest) = 45 :: (wrB r.2 insB ++ (l.flatMap inR ++ 93 :: rest)) := by rw [if_pos hlt]; rfl
        rw [e3] at p2 ⊢
        rw [if_pos ⟨p2, rfl⟩, List.tail_cons, if_neg (by rw [q2]; decide), q1]
        simp only []
        have hlo : ¬ (loR [(r.2, r.2)] < loR [(r.1, r.1)]) := by
          show ¬ (r.2 < r.1)
          rw [UInt8.lt_iff_toNat_lt]; omega
        rw [if_neg hlo]
        show pSetL n (acc ++ [(r.1, r.2)]) _ = _
        rw [setL_rt rest l _ n hl (.inl (by simp)) hlen]
        simp
      · have e3 : (if r.1 < r.2 then 45 :: wrB r.2 insB else []) ++ (l.flatMap inR ++ 93 :: rest) = l.flatMap inR ++ 93 :: rest := by rw [if_neg hlt]; rfl
        rw [e3]
        have heq : r.1 = r.2 := by
          rw [UInt8.lt_iff_toNat_lt] at hlt
          exact UInt8.toNat_inj.1 (by omega)
        have hno : ¬ (isCls (c :: (t ++ ((if r.1 < r.2 then 45 :: wrB r.2 insB else []) ++ (l.flatMap inR ++ 93 :: rest)))) = false ∧ (l.flatMap inR ++ 93 :: rest).head? = some 45) := by
          rintro ⟨_, h⟩
          rw [me] at h
          simp at h
          exact m1 h
        rw [e3] at hno
        rw [if_neg hno, setL_rt rest l _ n hl (.inl (by simp)) hlen]
        have : r = (r.1, r.1) := by rw [Prod.ext_iff]; exact ⟨rfl, heq.symm⟩
        have e5 : [((r.1, r.1) : UInt8 × UInt8)] = [r] := by rw [← this]
        rw [List.append_assoc, e5]
        rfl
theorem canR_id {l : Rng} (h : canR (fun j => hasI l (j : Nat)) 256 = l) : canR (fun j => !(hasI l (j : Nat) == false)) 256 = l := by
  conv => rhs; rw [← h]
  exact canR_congr fun j _ => by cases hasI l (j : Int) <;> rfl
theorem pSet_rt {l : Rng} (hne : l ≠ []) (hl : ∀ r ∈ l, okR r) (h : canR (fun j => hasI l (j : Nat)) 256 = l) (rest : List UInt8) : pSet (l.flatMap inR ++ 93 :: rest) = some (l, rest) := by
  obtain ⟨c, t, e, _, h94⟩ := more_head l hl rest
  have hh : ¬ ((l.flatMap inR ++ 93 :: rest).head? = some 94) := by rw [e]; simpa using h94
  unfold pSet
  rw [if_neg hh, decide_eq_false hh, setL_rt rest l [] _ hl (.inr hne) (by omega)]
  show some (canR (fun j => !(hasI l (j : Nat) == false)) 256, rest) = _
  rw [canR_id h]
theorem pSet_not {l m : Rng} (hne : m ≠ []) (hl : ∀ r ∈ m, okR r) (hm : m = canR (fun j => !(hasI l (j : Nat))) 256) (h : canR (fun j => hasI l (j : Nat)) 256 = l) (rest : List UInt8) : pSet (94 :: (m.flatMap inR ++ 93 :: rest)) = some (l, rest) := by
  have hh : (94 :: (m.flatMap inR ++ 93 :: rest)).head? = some 94 := rfl
  unfold pSet
  rw [if_pos hh, decide_eq_true hh, List.tail_cons, setL_rt rest m [] _ hl (.inr hne) (by simp; omega)]
  show some (canR (fun j => !(hasI m (j : Nat) == true)) 256, rest) = _
  have : canR (fun j => !(hasI m (j : Nat) == true)) 256 = l := by
    conv => rhs; rw [← h]
    refine canR_congr fun j hj => ?_
    rw [hm, hasI_can hj]
    cases hasI l (j : Int) <;> rfl
  rw [this]
theorem pAtom_cons (alt : List UInt8 → Option (Rx × List UInt8)) (c : UInt8) (r : List UInt8) : pAtom alt (c :: r) =
    (if c = 40 then (match alt r with
      | none => none
      | some (x, t) => if t.head? = some 41 then some (x, t.tail) else none)
    else if c = 94 then some (leafX 5, r) else if c = 36 then some (leafX 6, r) else if c = 46 then some (setX dotR, r)
    else if c = 91 then (pSet r).map fun p => (setX p.1, p.2)
    else if c = 92 then (match r with
      | [] => none
      | d :: u => if d = 98 then some (leafX 7, u) else (pEsc d).map fun l => (setX l, u))
    else if classB c = 0 then some (setX [(c, c)], r) else none) := rfl
theorem pAtom_91 (alt : List UInt8 → Option (Rx × List UInt8)) (r : List UInt8) : pAtom alt (91 :: r) = (pSet r).map fun p => (setX p.1, p.2) := by
  rw [pAtom_cons]
  rw [if_neg (by decide), if_neg (by decide), if_neg (by decide), if_neg (by decide), if_pos rfl]
theorem pAtom_92 (alt : List UInt8 → Option (Rx × List UInt8)) (d : UInt8) (u : List UInt8) (h : d ≠ 98) : pAtom alt (92 :: d :: u) = (pEsc d).map fun l => (setX l, u) := by
  rw [pAtom_cons]
  rw [if_neg (by decide), if_neg (by decide), if_neg (by decide), if_neg (by decide), if_neg (by decide), if_pos rfl]
  show (if d = 98 then some (leafX 7, u) else (pEsc d).map fun l => (setX l, u)) = _
  rw [if_neg h]
/-- A text begins as an item does. -/
def startT (t : List UInt8) : Prop := ∃ c u, t = c :: u ∧ c ≠ 42 ∧ c ≠ 43 ∧ c ≠ 63 ∧ c ≠ 123 ∧ c ≠ 124 ∧ c ≠ 41
theorem start_92 (u : List UInt8) : startT (92 :: u) := ⟨92, u, rfl, by decide, by decide, by decide, by decide, by decide, by decide⟩
theorem start_91 (u : List UInt8) : startT (91 :: u) := ⟨91, u, rfl, by decide, by decide, by decide, by decide, by decide, by decide⟩
theorem start_46 (u : List UInt8) : startT (46 :: u) := ⟨46, u, rfl, by decide, by decide, by decide, by decide, by decide, by decide⟩
theorem start_40 (u : List UInt8) : startT (40 :: u) := ⟨40, u, rfl, by decide, by decide, by decide, by decide, by decide, by decide⟩
theorem atom_wr (alt : List UInt8 → Option (Rx × List UInt8)) {b : UInt8} (h : visB b = true) (r : List UInt8) : pAtom alt (wrB b spcs ++ r) = some (setX [(b, b)], r) ∧ startT (wrB b spcs) := by
  unfold wrB
  by_cases h9 : b = 9
  · subst h9
    rw [if_pos rfl]
    exact ⟨by show pAtom alt (92 :: 116 :: r) = _; rw [pAtom_92 _ _ _ (by decide)]; rfl, start_92 _⟩
  · rw [if_neg h9]
    by_cases h10 : b = 10
    · subst h10
      rw [if_pos rfl]
      exact ⟨by show pAtom alt (92 :: 110 :: r) = _; rw [pAtom_92 _ _ _ (by decide)]; rfl, start_92 _⟩
    · rw [if_neg h10]
      have hv := vis_cases h h9 h10
      by_cases hi : b ∈ spcs
      · rw [if_pos hi]
        obtain ⟨e1, e2⟩ := spcs_esc b hi
        exact ⟨by show pAtom alt (92 :: b :: r) = _; rw [pAtom_92 _ _ _ e2, e1]; rfl, start_92 _⟩
      · rw [if_neg hi]
        have hc : classB b = 0 := by unfold classB; rw [if_neg hv, if_neg hi]
        have hn : ∀ c, c ∈ spcs → b ≠ c := fun c hc e => hi (e ▸ hc)
        refine ⟨?_, b, [], rfl, hn 42 (by decide), hn 43 (by decide), hn 63 (by decide), hn 123 (by decide), hn 124 (by decide), hn 41 (by decide)⟩
        show pAtom alt (b :: r) = _
        rw [pAtom_cons]
        rw [if_neg (hn 40 (by decide)), if_neg (hn 94 (by decide)), if_neg (hn 36 (by decide)), if_neg (hn 46 (by decide)), if_neg (hn 91 (by decide)), if_neg (hn 92 (by decide)), if_pos hc]
theorem insL_ok {l : Rng} (h : (insL l).2 = true) : (insL l).1 = l.flatMap inR ∧ l ≠ [] ∧ ∀ r ∈ l, visB r.1 = true ∧ visB r.2 = true := by
  unfold insL at h ⊢
  split at h
  · rename_i ha
    rw [if_pos ha]
    refine ⟨rfl, fun e => by subst e; simp at h, fun r hr => ?_⟩
    have := List.all_eq_true.1 ha r hr
    simpa using this
  · cases h
theorem set_rt (alt : List UInt8 → Option (Rx × List UInt8)) {l : Rng} (hne : l ≠ []) (h : (setP l).2 = true) (rest : List UInt8) : pAtom alt ((setP l).1 ++ rest) = some (setX l, rest) ∧ startT (setP l).1 := by
  unfold setP at h ⊢
  by_cases hc : canR (fun j => hasI l (j : Nat)) 256 ≠ l
  · rw [if_pos hc] at h; cases h
  · rw [if_neg hc] at h ⊢
    have hc := Decidable.of_not_not hc
    have hord : ∀ r ∈ l, r.1.toNat ≤ r.2.toNat := fun r hr => canR_ord _ 256 (Nat.le_refl _) r (by rw [hc]; exact hr)
    by_cases h1 : l.length = 1 ∧ (l.getD 0 (0, 0)).1 = (l.getD 0 (0, 0)).2 ∧ visB (l.getD 0 (0, 0)).1 = true
    · rw [if_pos h1]
      obtain ⟨k1, k2, k3⟩ := h1
      match l, k1 with
      | [(a, b)], _ =>
        have k2 : a = b := k2
        subst k2
        exact atom_wr alt k3 rest
    · rw [if_neg h1] at h ⊢
      by_cases h2 : canR (fun j => !(hasI l (j : Nat))) 256 = [(10, 10)]
      · rw [if_pos h2]
        refine ⟨?_, start_46 _⟩
        show pAtom alt (46 :: rest) = _
        rw [pAtom_cons]
        rw [if_neg (by decide), if_neg (by decide), if_neg (by decide), if_pos rfl]
        have : dotR = l := by
          unfold dotR
          conv => rhs; rw [← hc]
          refine canR_congr fun j hj => ?_
          rw [← h2, hasI_can hj]
          cases hasI l (j : Int) <;> rfl
        rw [this]
      · rw [if_neg h2] at h ⊢
        by_cases h3 : (insL l).2 = true
        · rw [if_pos h3]
          obtain ⟨e1, e2, e3⟩ := insL_ok h3
          rw [e1]
          refine ⟨?_, start_91 _⟩
          have e : [91] ++ l.flatMap inR ++ [93] ++ rest = 91 :: (l.flatMap inR ++ 93 :: rest) := by simp
          show pAtom alt ([91] ++ l.flatMap inR ++ [93] ++ rest) = _
          rw [e, pAtom_91, pSet_rt hne (fun r hr => ⟨(e3 r hr).1, (e3 r hr).2, hord r hr⟩) hc rest]; rfl
        · rw [if_neg h3] at h ⊢
          have h : (insL (canR (fun j => !(hasI l (j : Nat))) 256)).2 = true := h
          obtain ⟨e1, e2, e3⟩ := insL_ok h
          refine ⟨?_, start_91 _⟩
          show pAtom alt ([91, 94] ++ (insL (canR (fun j => !(hasI l (j : Nat))) 256)).1 ++ [93] ++ rest) = _
          rw [e1]
          generalize hm : canR (fun j => !(hasI l (j : Nat))) 256 = m at *
          have e : [91, 94] ++ m.flatMap inR ++ [93] ++ rest = 91 :: 94 :: (m.flatMap inR ++ 93 :: rest) := by simp
          rw [e, pAtom_91, pSet_not e2 (fun r hr => ⟨(e3 r hr).1, (e3 r hr).2, canR_ord _ 256 (Nat.le_refl _) r (by rw [hm]; exact hr)⟩) hm.symm hc rest]; rfl
/-! ### repetitions -/
theorem decN_one {n : Int} (h0 : 0 ≤ n) (h9 : n ≤ 9) : ∃ d : UInt8, decN n = [d] ∧ digB d = true ∧ (d.toNat : Int) - 48 = n ∧ d ≠ 125 := by
  have ht : (UInt8.ofNat (48 + n.toNat)).toNat = 48 + n.toNat := u8_nat (by omega)
  refine ⟨UInt8.ofNat (48 + n.toNat), ?_, ?_, ?_, ?_⟩
  · unfold decN; rw [if_pos (by omega)]
  · unfold digB
    rw [Bool.and_eq_true, decide_eq_true_eq, decide_eq_true_eq, UInt8.le_iff_toNat_le, UInt8.le_iff_toNat_le, ht]
    show (48 : Nat) ≤ _ ∧ _ ≤ (57 : Nat)
    omega
  · rw [ht]; omega
  · intro e
    rw [e] at ht
    have : (125 : UInt8).toNat = 125 := rfl
    omega
theorem pNum_one {n : Int} (h0 : 0 ≤ n) (h9 : n ≤ 9) {c : UInt8} (r : List UInt8) (hc : ¬ digB c = true) : pNum (decN n ++ c :: r) = some (n, c :: r) := by
  obtain ⟨d, e, hd, hn, _⟩ := decN_one h0 h9
  rw [e]
  show pNum (d :: c :: r) = _
  unfold pNum
  have hp : pNumL 4 0 0 (d :: c :: r) = (n, 1, c :: r) := by
    rw [pNumL_go hd, pNumL_stop hc]
    simp [hn]
  rw [hp, if_neg (by simp)]
theorem sufP_rt (x : Rx) {mn mx : Int} (h : 0 ≤ mn ∧ mn ≤ 8 ∧ (mx = -1 ∨ (1 ≤ mx ∧ mx ≤ 8))) (rest : List UInt8) : pRep x (sufP mn mx ++ rest) = some (repX mn mx x, rest) := by
  obtain ⟨h1, h2, h3⟩ := h
  have hbr : ∀ l, pRep x (123 :: l) = pBr x l := fun l => by
    rw [pRep]
    rw [if_neg (by decide), if_neg (by decide), if_neg (by decide), if_pos rfl]
  unfold sufP
  by_cases c1 : mn = 0 ∧ mx = -1
  · obtain ⟨rfl, rfl⟩ := c1
    show pRep x (42 :: rest) = _
    rw [pRep, if_pos rfl]
  · have e1 : (mn == 0 && mx == -1) = false := by rw [← Bool.not_eq_true]; simpa using c1
    rw [e1, cond_false]
    by_cases c2 : mn = 1 ∧ mx = -1
    · obtain ⟨rfl, rfl⟩ := c2
      show pRep x (43 :: rest) = _
      rw [pRep, if_neg (by decide), if_pos rfl]
    · have e2 : (mn == 1 && mx == -1) = false := by rw [← Bool.not_eq_true]; simpa using c2
      rw [e2, cond_false]
      by_cases c3 : mn = 0 ∧ mx = 1
      · obtain ⟨rfl, rfl⟩ := c3
        show pRep x (63 :: rest) = _
        rw [pRep, if_neg (by decide), if_neg (by decide), if_pos rfl]
      · have e3 : (mn == 0 && mx == 1) = false := by rw [← Bool.not_eq_true]; simpa using c3
        rw [e3, cond_false]
        by_cases c4 : mn = mx
        · subst c4
          rw [ev_eq_t rfl, cond_true]
          have e : [123] ++ decN mn ++ [125] ++ rest = 123 :: (decN mn ++ 125 :: rest) := by simp
          rw [e, hbr]
          unfold pBr
          rw [pNum_one h1 (by omega) rest (by decide)]
          simp
        · rw [ev_eq_f c4, cond_false]
          by_cases c5 : mx = -1
          · subst c5
            rw [ev_eq_t rfl, cond_true]
            have e : [123] ++ decN mn ++ [44, 125] ++ rest = 123 :: (decN mn ++ 44 :: 125 :: rest) := by simp
            rw [e, hbr]
            unfold pBr
            rw [pNum_one h1 (by omega) (125 :: rest) (by decide)]
            simp
          · rw [ev_eq_f c5, cond_false]
            have h3 : 1 ≤ mx ∧ mx ≤ 8 := by omega
            have e : [123] ++ decN mn ++ [44] ++ decN mx ++ [125] ++ rest = 123 :: (decN mn ++ 44 :: (decN mx ++ 125 :: rest)) := by simp
            rw [e, hbr]
            unfold pBr
            rw [pNum_one h1 (by omega) _ (by decide)]
            have hn := pNum_one (n := mx) (by omega) (by omega) (c := 125) rest (by decide)
            obtain ⟨d, ed, _, _, hd⟩ := decN_one (n := mx) (by omega) (by omega)
            rw [ed] at hn ⊢
            have hn : pNum (d :: 125 :: rest) = some (mx, 125 :: rest) := hn
            simp [hd, hn]
end Go.Ab
namespace Go.Ab
open Go.Proofs

abbrev T (x : Rx) : List UInt8 := (textP x).1
def stopT (r : List UInt8) : Prop := r = [] ∨ r.head? = some 124 ∨ r.head? = some 41
def safeT (r : List UInt8) : Prop := ∀ c, r.head? = some c → c ≠ 42 ∧ c ≠ 43 ∧ c ≠ 63 ∧ c ≠ 123
def lastT (r : List UInt8) : Prop := r = [] ∨ r.head? = some 41
theorem last_stop {r : List UInt8} (h : lastT r) : stopT r := h.elim .inl fun h => .inr (.inr h)
theorem stop_safe {r : List UInt8} (h : stopT r) : safeT r := fun c hc => by
  rcases h with rfl | h | h
  · cases hc
  · rw [h] at hc; cases hc; decide
  · rw [h] at hc; cases hc; decide
theorem start_safe {t : List UInt8} (h : startT t) (r : List UInt8) : safeT (t ++ r) := fun c hc => by
  obtain ⟨d, u, rfl, h1, h2, h3, h4, _⟩ := h
  simp only [List.cons_append, List.head?_cons, Option.some.injEq] at hc
  subst hc
  exact ⟨h1, h2, h3, h4⟩
theorem start_app {t : List UInt8} (h : startT t) (r : List UInt8) : startT (t ++ r) := by
  obtain ⟨c, u, rfl, h⟩ := h
  exact ⟨c, u ++ r, rfl, h⟩
theorem rep_safe (x : Rx) {r : List UInt8} (h : safeT r) : pRep x r = some (x, r) := by
  cases r with
  | nil => rfl
  | cons c r =>
    obtain ⟨h1, h2, h3, h4⟩ := h c rfl
    rw [pRep, if_neg h1, if_neg h2, if_neg h3, if_neg h4]
theorem item_of {p : List UInt8 → Option (Rx × List UInt8)} {t r : List UInt8} {x : Rx} (h : pAtom p (t ++ r) = some (x, r)) (hr : safeT r) : pItem p (t ++ r) = some (x, r) := by
  unfold pItem
  rw [h]
  exact rep_safe x hr
theorem seq_one {p : List UInt8 → Option (Rx × List UInt8)} {t r : List UInt8} {x : Rx} (h : pItem p (t ++ r) = some (x, r)) (hs : startT t) (hr : stopT r) : pSeq p (t ++ r) = some (x, r) := by
  obtain ⟨c, u, rfl, _, _, _, _, h5, h6⟩ := hs
  unfold pSeq
  have hn : ¬ ((c :: u ++ r) = [] ∨ (c :: u ++ r).head? = some 124 ∨ (c :: u ++ r).head? = some 41) := by
    simp [h5, h6]
  rw [pSeqL, if_neg hn, h]
  simp only []
  have : (c :: u ++ r).length = (u ++ r).length + 1 := rfl
  rw [this, pSeqL, if_pos (show r = [] ∨ r.head? = some 124 ∨ r.head? = some 41 from hr)]
  rfl
theorem alt_one {n : Nat} {t r : List UInt8} {x : Rx} (h : pSeq (pAlt n) (t ++ r) = some (x, r)) (hr : lastT r) : pAlt (n + 1) (t ++ r) = some (x, r) := by
  rw [pAlt, h]
  simp only [Option.bind_some]
  have hn : ¬ (r.head? = some 124) := by
    rcases hr with rfl | hr
    · simp
    · rw [hr]; decide
  rw [pAltL, if_neg hn]
  rfl
theorem paren_atom {n : Nat} {t r : List UInt8} {x : Rx} (h : pAlt n (t ++ 41 :: r) = some (x, 41 :: r)) : pAtom (pAlt n) ([40] ++ t ++ [41] ++ r) = some (x, r) := by
  have e : [40] ++ t ++ [41] ++ r = 40 :: (t ++ 41 :: r) := by simp
  rw [e, pAtom_cons, if_pos rfl, h]
  simp
/-- How one expression is read. -/
structure RT (x : Rx) : Prop where
  atom : ¬ (x.kind = 2 ∨ x.kind = 3 ∨ x.kind = 4) → ∀ n r, pAtom (pAlt n) (T x ++ r) = some (x, r)
  item : ¬ (x.kind = 2 ∨ x.kind = 3) → startT (T x) ∧ ∀ n r, (T x).length ≤ n → safeT r → pItem (pAlt n) (T x ++ r) = some (x, r)
  seq : x.kind ≠ 3 → ∀ n r, (T x).length ≤ n → stopT r → pSeq (pAlt n) (T x ++ r) = some (x, r)
  alt : ∀ n r, (T x).length ≤ n → lastT r → pAlt (n + 1) (T x ++ r) = some (x, r)
theorem RT.of_item {x : Rx} (hk : ¬ (x.kind = 2 ∨ x.kind = 3)) (ha : ¬ (x.kind = 2 ∨ x.kind = 3 ∨ x.kind = 4) → ∀ n r, pAtom (pAlt n) (T x ++ r) = some (x, r)) (hs : startT (T x))
    (hi : ∀ n r, (T x).length ≤ n → safeT r → pItem (pAlt n) (T x ++ r) = some (x, r)) : RT x :=
  ⟨ha, fun _ => ⟨hs, hi⟩, fun _ n r hn hr => seq_one (hi n r hn (stop_safe hr)) hs hr, fun n r hn hr => alt_one (seq_one (hi n r hn (stop_safe (last_stop hr))) hs (last_stop hr)) hr⟩
theorem RT.of_atom {x : Rx} (hk : ¬ (x.kind = 2 ∨ x.kind = 3 ∨ x.kind = 4)) (ha : ∀ n r, pAtom (pAlt n) (T x ++ r) = some (x, r)) (hs : startT (T x)) : RT x :=
  RT.of_item (fun h => hk (h.elim .inl fun h => .inr (.inl h))) (fun _ => ha) hs fun n r _ hr => item_of (ha n r) hr
/-- A part in parentheses where it is one of some kinds. -/
theorem wrap_paren {x : Rx} (h : RT x) {n : Nat} (hn : (T x).length + 2 ≤ n) (r : List UInt8) : pAtom (pAlt n) ([40] ++ T x ++ [41] ++ r) = some (x, r) := by
  obtain ⟨m, rfl⟩ : ∃ m, n = m + 1 := ⟨n - 1, by omega⟩
  exact paren_atom (h.alt m (41 :: r) (by omega) (.inr rfl))
theorem wrap_yes {ks : List Int} {x : Rx} (h : x.kind ∈ ks) : wrapP ks x (T x) = [40] ++ T x ++ [41] := by unfold wrapP; rw [if_pos h]
theorem wrap_no {ks : List Int} {x : Rx} (h : ¬ x.kind ∈ ks) : wrapP ks x (T x) = T x := by unfold wrapP; rw [if_neg h]
/-- Below a repetition. -/
theorem wrap_atom {x : Rx} (h : RT x) (n : Nat) (hn : (wrapP [2, 3, 4] x (T x)).length ≤ n) (r : List UInt8) : pAtom (pAlt n) (wrapP [2, 3, 4] x (T x) ++ r) = some (x, r) ∧ startT (wrapP [2, 3, 4] x (T x)) := by
  by_cases hk : x.kind ∈ ([2, 3, 4] : List Int)
  · rw [wrap_yes hk] at hn ⊢
    exact ⟨wrap_paren h (by simp at hn; omega) r, start_40 _⟩
  · rw [wrap_no hk]
    have hk' : ¬ (x.kind = 2 ∨ x.kind = 3 ∨ x.kind = 4) := by simpa using hk
    exact ⟨h.atom hk' n r, (h.item fun h => hk' (h.elim .inl fun h => .inr (.inl h))).1⟩
/-- In a sequence. -/
theorem wrap_item {x : Rx} (h : RT x) : startT (wrapP [2, 3] x (T x)) ∧ ∀ n, (wrapP [2, 3] x (T x)).length ≤ n → ∀ r, safeT r → pItem (pAlt n) (wrapP [2, 3] x (T x) ++ r) = some (x, r) := by
  by_cases hk : x.kind ∈ ([2, 3] : List Int)
  · rw [wrap_yes hk]
    exact ⟨start_40 _, fun n hn r hr => item_of (wrap_paren h (by simp at hn; omega) r) hr⟩
  · rw [wrap_no hk]
    have hk' : ¬ (x.kind = 2 ∨ x.kind = 3) := by simpa using hk
    exact ⟨(h.item hk').1, fun n hn r hr => (h.item hk').2 n r hn hr⟩
/-- Among alternatives. -/
theorem wrap_seq {x : Rx} (h : RT x) (n : Nat) (hn : (wrapP [3] x (T x)).length ≤ n) (r : List UInt8) (hr : stopT r) : pSeq (pAlt n) (wrapP [3] x (T x) ++ r) = some (x, r) := by
  by_cases hk : x.kind ∈ ([3] : List Int)
  · rw [wrap_yes hk] at hn ⊢
    exact seq_one (item_of (wrap_paren h (by simp at hn; omega) r) (stop_safe hr)) (start_40 _) hr
  · rw [wrap_no hk] at hn ⊢
    exact h.seq (by simpa using hk) n r hn hr
/-! ### lists of parts -/
theorem textL_some {ks : List Int} : ∀ {l : List Rx} {ws : List (List UInt8)}, textL ks l = some ws → ws = l.map (fun x => wrapP ks x (T x)) ∧ ∀ x ∈ l, (textP x).2 = true
  | [], ws, h => by rw [textL] at h; cases h; exact ⟨rfl, by simp⟩
  | x :: l, ws, h => by
    rw [textL_cons] at h
    split at h
    case isFalse => cases h
    rename_i hx
    rw [Option.map_eq_some_iff] at h
    obtain ⟨v, h1, rfl⟩ := h
    obtain ⟨i1, i2⟩ := textL_some h1
    refine ⟨by rw [i1]; rfl, fun y hy => ?_⟩
    rcases List.mem_cons.1 hy with rfl | hy
    · exact hx
    · exact i2 y hy
theorem joinB_nil : ∀ l : List (List UInt8), joinB l [] = l.flatten
  | [] => rfl
  | [a] => by simp [joinB, List.intercalate]
  | a :: b :: l => by
    have ih := joinB_nil (b :: l)
    have e : joinB (a :: b :: l) [] = a ++ [] ++ joinB (b :: l) [] := by simp [joinB, List.intercalate, List.intersperse]
    rw [e, ih]; simp
theorem joinB_bar : ∀ (a : List UInt8) (l : List (List UInt8)), joinB (a :: l) [124] = a ++ (l.map fun w => 124 :: w).flatten
  | a, [] => by simp [joinB, List.intercalate]
  | a, b :: l => by
    have ih := joinB_bar b l
    have e : joinB (a :: b :: l) [124] = a ++ [124] ++ joinB (b :: l) [124] := by simp [joinB, List.intercalate, List.intersperse]
    rw [e, ih]; simp
theorem seqL_rt (n : Nat) (r : List UInt8) (hr : stopT r) : ∀ (l acc : List Rx) (k : Nat), (∀ x ∈ l, RT x) → ((l.map fun x => wrapP [2, 3] x (T x)).flatten).length ≤ n → ((l.map fun x => wrapP [2, 3] x (T x)).flatten ++ r).length + 1 ≤ k →
    pSeqL (pAlt n) k acc ((l.map fun x => wrapP [2, 3] x (T x)).flatten ++ r) = some (acc ++ l, r)
  | [], acc, k, _, _, hk => by
    cases k with
    | zero => omega
    | succ k =>
      show pSeqL (pAlt n) (k + 1) acc r = _
      rw [pSeqL, if_pos (show r = [] ∨ r.head? = some 124 ∨ r.head? = some 41 from hr), List.append_nil]
  | x :: l, acc, k, hx, hn, hk => by
    cases k with
    | zero => omega
    | succ k =>
      obtain ⟨hs, hi⟩ := wrap_item (hx x List.mem_cons_self)
      have hl : ∀ y ∈ l, RT y := fun y hy => hx y (List.mem_cons_of_mem _ hy)
      simp only [List.map_cons, List.flatten_cons, List.append_assoc, List.length_append] at hn hk ⊢
      have hmore : safeT ((l.map fun x => wrapP [2, 3] x (T x)).flatten ++ r) := by
        cases l with
        | nil => exact stop_safe hr
        | cons y l =>
          rw [List.map_cons, List.flatten_cons, List.append_assoc]
          exact start_safe (wrap_item (hl y List.mem_cons_self)).1 _
      have hit := hi n (by omega) _ hmore
      obtain ⟨c, u, e, _, _, _, _, h5, h6⟩ := hs
      have hg : ¬ (wrapP [2, 3] x (T x) ++ ((l.map fun x => wrapP [2, 3] x (T x)).flatten ++ r) = [] ∨ (wrapP [2, 3] x (T x) ++ ((l.map fun x => wrapP [2, 3] x (T x)).flatten ++ r)).head? = some 124 ∨ (wrapP [2, 3] x (T x) ++ ((l.map fun x => wrapP [2, 3] x (T x)).flatten ++ r)).head? = some 41) := by
        rw [e]; simp [h5, h6]
      have hlen : 1 ≤ (wrapP [2, 3] x (T x)).length := by rw [e]; simp
      rw [pSeqL, if_neg hg, hit]
      simp only []
      rw [seqL_rt n r hr l (acc ++ [x]) k hl (by omega) (by simp only [List.length_append]; omega)]
      simp
theorem altL_rt (n : Nat) (r : List UInt8) (hr : lastT r) : ∀ (l acc : List Rx) (k : Nat), (∀ x ∈ l, RT x) → (((l.map fun x => wrapP [3] x (T x)).map fun w => 124 :: w).flatten).length ≤ n → (((l.map fun x => wrapP [3] x (T x)).map fun w => 124 :: w).flatten ++ r).length + 1 ≤ k →
    pAltL (pAlt n) k acc (((l.map fun x => wrapP [3] x (T x)).map fun w => 124 :: w).flatten ++ r) = some (acc ++ l, r)
  | [], acc, k, _, _, hk => by
    cases k with
    | zero => omega
    | succ k =>
      have hn : ¬ (r.head? = some 124) := by
        rcases hr with rfl | hr
        · simp
        · rw [hr]; decide
      show pAltL (pAlt n) (k + 1) acc r = _
      rw [pAltL, if_neg hn, List.append_nil]
  | x :: l, acc, k, hx, hn, hk => by
    cases k with
    | zero => omega
    | succ k =>
      have hl : ∀ y ∈ l, RT y := fun y hy => hx y (List.mem_cons_of_mem _ hy)
      simp only [List.map_cons, List.flatten_cons, List.append_assoc, List.length_append, List.length_cons, List.cons_append] at hn hk ⊢
      have hmore : stopT (((l.map fun x => wrapP [3] x (T x)).map fun w => 124 :: w).flatten ++ r) := by
        cases l with
        | nil => exact last_stop hr
        | cons y l => exact .inr (.inl rfl)
      have hit := wrap_seq (hx x List.mem_cons_self) n (by omega) _ hmore
      rw [pAltL, if_pos (List.head?_cons ..), List.tail_cons, hit]
      simp only []
      rw [altL_rt n r hr l (acc ++ [x]) k hl (by omega) (by simp only [List.length_append]; omega)]
      simp
/-! ### all expressions -/
theorem Rx_eta (x : Rx) : x = .mk x.kind x.set x.mn x.mx x.subs := by cases x; rfl
theorem rt_all : ∀ (m : Nat) (x : Rx), x.lev ≤ m → nodeS x = 0 → (textP x).2 = true → RT x
  | 0, x, hl, _, _ => (no_lev hl).elim
  | m + 1, x, hl, hr, ht => by
    obtain ⟨hf, hc, hs⟩ := right_of hr
    have ih : ∀ y ∈ x.subs, (textP y).2 = true → RT y := fun y hy hy2 => rt_all m y (by have := lev_sub hy; omega) (hs y hy) hy2
    obtain ⟨f1, f2, f3, f4, f5, f6, f7, f8⟩ := hf
    have hTe := textP_eq x
    by_cases k1 : x.kind = 1
    · rw [if_pos k1] at hTe
      have hne : x.set ≠ [] := by
        have := f3.1 k1
        intro e; rw [e] at this; simp at this
      have hx : x = setX x.set := by
        conv => lhs; rw [Rx_eta x]
        have h1 := f8 (by omega)
        have h2 : x.subs = [] := List.eq_nil_of_length_eq_zero (f7 (by omega))
        rw [k1, h1.1, h1.2, h2]; rfl
      have ht' : (setP x.set).2 = true := by rw [← hTe]; exact ht
      have hT : T x = (setP x.set).1 := by unfold T; rw [hTe]
      refine RT.of_atom (by omega) (fun n r => ?_) ?_
      · rw [hT]
        rw [(set_rt (pAlt n) hne ht' r).1, ← hx]
      · rw [hT]; exact (set_rt (pAlt 0) hne ht' []).2
    · rw [if_neg k1] at hTe
      have hset : x.set = [] := List.eq_nil_of_length_eq_zero (by omega)
      by_cases k2 : x.kind = 2
      · rw [if_pos k2] at hTe
        have ht2 : (textL [2, 3] x.subs).isSome = true ∧ ((textL [2, 3] x.subs).getD []).length ≠ 1 := by
          rw [hTe] at ht
          simpa using ht
        cases hw : textL [2, 3] x.subs with
        | none => rw [hw] at ht2; simp at ht2
        | some ws =>
          rw [hw] at hTe ht2
          obtain ⟨w1, w2⟩ := textL_some hw
          have hT : T x = (x.subs.map fun y => wrapP [2, 3] y (T y)).flatten := by
            unfold T; rw [hTe]
            show joinB ws [] = _
            rw [joinB_nil, w1]
          have hlen : x.subs.length ≠ 1 := by
            have := ht2.2
            rw [w1] at this
            simpa using this
          have hx : oneX 2 x.subs = x := by
            unfold oneX
            rw [if_neg hlen]
            conv => rhs; rw [Rx_eta x]
            have h1 := f8 (by omega)
            rw [k2, h1.1, h1.2, hset]
          have hseq : ∀ n r, (T x).length ≤ n → stopT r → pSeq (pAlt n) (T x ++ r) = some (x, r) := fun n r hn hr => by
            rw [hT] at hn ⊢
            unfold pSeq
            rw [seqL_rt n r hr x.subs [] _ (fun y hy => ih y hy (w2 y hy)) hn (Nat.le_refl _)]
            show some (oneX 2 ([] ++ x.subs), r) = _
            rw [List.nil_append, hx]
          exact ⟨fun h => absurd (.inl k2) h, fun h => absurd (.inl k2) h, fun _ => hseq, fun n r hn hr => alt_one (hseq n r hn (last_stop hr)) hr⟩
      · rw [if_neg k2] at hTe
        by_cases k3 : x.kind = 3
        · rw [if_pos k3] at hTe
          have hl2 := f6 k3
          cases hw : textL [3] x.subs with
          | none => rw [hTe, hw] at ht; simp at ht
          | some ws =>
            rw [hw] at hTe
            obtain ⟨w1, w2⟩ := textL_some hw
            have hx : oneX 3 x.subs = x := by
              unfold oneX
              rw [if_neg (by omega)]
              conv => rhs; rw [Rx_eta x]
              have h1 := f8 (by omega)
              rw [k3, h1.1, h1.2, hset]
            cases hsub : x.subs with
            | nil => rw [hsub] at hl2; simp at hl2
            | cons y l =>
              have hT : T x = wrapP [3] y (T y) ++ ((l.map fun z => wrapP [3] z (T z)).map fun w => 124 :: w).flatten := by
                unfold T; rw [hTe]
                show joinB ws [124] = _
                rw [w1, hsub, List.map_cons, joinB_bar]
              have hyr : ∀ z ∈ y :: l, RT z := fun z hz => ih z (by rw [hsub]; exact hz) (w2 z (by rw [hsub]; exact hz))
              refine ⟨fun h => absurd (.inr (.inl k3)) h, fun h => absurd (.inr k3) h, fun h => absurd k3 h, fun n r hn hr => ?_⟩
              rw [hT] at hn ⊢
              rw [List.length_append] at hn
              have hl3 : l ≠ [] := by
                intro e; rw [hsub, e] at hl2; simp at hl2
              have hmore : stopT (((l.map fun z => wrapP [3] z (T z)).map fun w => 124 :: w).flatten ++ r) := by
                cases l with
                | nil => exact absurd rfl hl3
                | cons z l => exact .inr (.inl rfl)
              have h1 := wrap_seq (hyr y List.mem_cons_self) n (by omega) _ hmore
              rw [pAlt, List.append_assoc, h1]
              simp only [Option.bind_some]
              rw [altL_rt n r hr l [y] _ (fun z hz => hyr z (List.mem_cons_of_mem _ hz)) (by omega) (by simp only [List.length_append]; omega)]
              show some (oneX 3 (y :: l), r) = _
              rw [← hsub, hx]
        · rw [if_neg k3] at hTe
          by_cases k4 : x.kind = 4
          · rw [if_pos k4] at hTe
            have hl1 := f5 k4
            cases hw : textL [2, 3, 4] x.subs with
            | none => rw [hTe, hw] at ht; simp at ht
            | some ws =>
              rw [hw] at hTe
              obtain ⟨w1, w2⟩ := textL_some hw
              match hsub : x.subs, hl1 with
              | [y], _ =>
                have hyr : RT y := ih y (by rw [hsub]; exact List.mem_cons_self) (w2 y (by rw [hsub]; exact List.mem_cons_self))
                have hT : T x = wrapP [2, 3, 4] y (T y) ++ sufP x.mn x.mx := by
                  unfold T; rw [hTe]
                  show joinB ws [] ++ _ = _
                  rw [joinB_nil, w1, hsub]; simp
                have hx : repX x.mn x.mx y = x := by
                  conv => rhs; rw [Rx_eta x]
                  rw [k4, hset, hsub]; rfl
                have hb : 0 ≤ x.mn ∧ x.mn ≤ 8 ∧ (x.mx = -1 ∨ (1 ≤ x.mx ∧ x.mx ≤ 8)) := by
                  unfold cntP at hc
                  omega
                have hst := (wrap_atom hyr _ (Nat.le_refl _) []).2
                refine RT.of_item (by omega) (fun h => absurd (.inr (.inr k4)) h) ?_ fun n r hn hr => ?_
                · rw [hT]; exact start_app hst _
                · rw [hT, List.length_append] at hn
                  rw [hT]
                  unfold pItem
                  rw [List.append_assoc, (wrap_atom hyr n (by omega) _).1]
                  simp only [Option.bind_some]
                  rw [sufP_rt y hb r, hx]
          · rw [if_neg k4] at hTe
            have hx0 : x = leafX x.kind := by
              conv => lhs; rw [Rx_eta x]
              have h1 := f8 k4
              have h2 : x.subs = [] := List.eq_nil_of_length_eq_zero (f7 (by omega))
              rw [h1.1, h1.2, h2, hset]; rfl
            by_cases k5 : x.kind = 5
            · rw [if_pos k5] at hTe
              have hT : T x = [94] := by unfold T; rw [hTe]
              refine RT.of_atom (by omega) (fun n r => ?_) ?_
              · rw [hT]
                show pAtom _ (94 :: r) = _
                rw [pAtom_cons, if_neg (by decide), if_pos rfl]
                conv => rhs; rw [hx0, k5]
              · rw [hT]; exact ⟨94, [], rfl, by decide, by decide, by decide, by decide, by decide, by decide⟩
            · rw [if_neg k5] at hTe
              by_cases k6 : x.kind = 6
              · rw [if_pos k6] at hTe
                have hT : T x = [36] := by unfold T; rw [hTe]
                refine RT.of_atom (by omega) (fun n r => ?_) ?_
                · rw [hT]
                  show pAtom _ (36 :: r) = _
                  rw [pAtom_cons, if_neg (by decide), if_neg (by decide), if_pos rfl]
                  conv => rhs; rw [hx0, k6]
                · rw [hT]; exact ⟨36, [], rfl, by decide, by decide, by decide, by decide, by decide, by decide⟩
              · rw [if_neg k6] at hTe
                have k7 : x.kind = 7 := by omega
                have hT : T x = [92, 98] := by unfold T; rw [hTe]
                refine RT.of_atom (by omega) (fun n r => ?_) ?_
                · rw [hT]
                  show pAtom _ (92 :: 98 :: r) = _
                  rw [pAtom_cons, if_neg (by decide), if_neg (by decide), if_neg (by decide), if_neg (by decide), if_neg (by decide), if_pos rfl]
                  show (if (98 : UInt8) = 98 then some (leafX 7, r) else (pEsc 98).map fun l => (setX l, r)) = _
                  rw [if_pos rfl]
                  conv => rhs; rw [hx0, k7]
                · rw [hT]; exact start_92 _
/-- What is printed is parsed as what it was. -/
theorem back (x : Rx) (h : (printP x).2 = 0) : parseP (printP x).1 = (x, 0) ∧ rightS x = 0 ∧ (printP x).1.length ≤ 300 := by
  unfold printP at h ⊢
  by_cases hr : rightS x = 0
  · rw [if_neg (by simp [hr])] at h ⊢
    by_cases ht : (textP x).2 = false ∨ 300 < (textP x).1.length
    · rw [if_pos ht] at h; simp at h
    · rw [if_neg ht]
      have hlen : (textP x).1.length ≤ 300 := by
        have : ¬ 300 < (textP x).1.length := fun h => ht (.inr h)
        omega
      have hok : (textP x).2 = true := by
        cases hb : (textP x).2 with
        | true => rfl
        | false => exact absurd (.inl hb) ht
      have hn := rightS_node hr
      have hrt := (rt_all _ x (Nat.le_refl _) hn hok).alt 300 [] hlen (.inl rfl)
      rw [List.append_nil] at hrt
      have he := (alt_rel 301 (textP x).1 (by omega)).2 x [] hrt
      refine ⟨?_, hr, hlen⟩
      show parseP (textP x).1 = (x, 0)
      unfold parseP
      rw [if_neg (by omega), he, if_neg (by simp), if_neg (by simp [hr])]
  · rw [if_pos hr] at h
    exact absurd h hr
theorem print_err (x : Rx) (h : (printP x).2 ≠ 0) : (printP x).1 = [] := by
  unfold printP at h ⊢
  split
  · rfl
  · rename_i hr
    rw [if_neg hr] at h
    split
    · rfl
    · rename_i ht
      rw [if_neg ht] at h
      exact absurd rfl h
theorem print_right {x : Rx} (hr : rightS x = 0) (h : (printP x).2 ≠ 0) : (printP x).2 = 3 := by
  unfold printP at h ⊢
  rw [if_neg (by simp [hr])] at h ⊢
  split
  · rfl
  · rename_i ht
    rw [if_neg ht] at h
    exact absurd rfl h
theorem parse_err (l : List UInt8) (h : (parseP l).2 ≠ 0) : (parseP l).1 = zeroX := by
  unfold parseP at h ⊢
  split
  · rfl
  · rename_i h1
    rw [if_neg h1] at h
    split
    · rfl
    · rename_i h2
      rw [if_neg h2] at h
      split
      · rfl
      · rename_i h3
        rw [if_neg h3] at h
        exact absurd rfl h
theorem parse_right (l : List UInt8) (h : (parseP l).2 = 0) : rightS (parseP l).1 = 0 := by
  unfold parseP at h ⊢
  split
  · rename_i h1; rw [if_pos h1] at h; simp at h
  · rename_i h1
    rw [if_neg h1] at h
    split
    · rename_i h2; rw [if_pos h2] at h; simp at h
    · rename_i h2
      rw [if_neg h2] at h
      split
      · rename_i h3; rw [if_pos h3] at h; exact absurd h h3
      · rename_i h3
        exact Decidable.of_not_not h3
end Go.Ab
namespace Go.Ab
open Go.Proofs

theorem inText_loop (l : List UInt8) (c : UInt8) (hl : l.length ≤ 1000000) : ∀ k i : Nat, i + k = l.length → Runs (cfg []) (inText_q2 (mk l) (c.toNat : Int) (i : Nat)) [.bool (decide (c ∈ l.drop i))]
  | 0, i, h => by
    refine Runs.by (inText_p2 · _ _ _) ?_
    rw [size_mk, ev_lt_f (by omega), drop_end (by omega)]
    exact .ret' (by simp)
  | k + 1, i, h => by
    refine Runs.by (inText_p2 · _ _ _) ?_
    have hi : i < l.length := by omega
    rw [size_mk, ev_lt_t (by omega), ev_le_t (by omega), byI_mk, beq_u8, w64 (by omega) (by omega), drop_at 0 hi]
    simp only [Bool.and_self, cond_true]
    by_cases e : l.getD i 0 = c
    · rw [decide_eq_true e, decide_eq_true (List.mem_cons.2 (.inl e.symm))]
      exact .ret
    · have e2 : decide (c ∈ l.getD i 0 :: l.drop (i + 1)) = decide (c ∈ l.drop (i + 1)) := by
        rw [decide_eq_decide, List.mem_cons]
        exact ⟨fun h => h.elim (fun h => absurd h.symm e) id, .inr⟩
      rw [decide_eq_false e, e2]
      exact .go (by simpa using inText_loop l c hl k (i + 1) (by omega))
theorem inText_holds : Holds k_inText := con_run (xs := []) hold0 fun aa hp r h => by
  split at h
  case h_2 => cases h
  rename_i s c
  obtain ⟨g, rfl⟩ := xo h
  rw [Bool.and_eq_true] at g
  obtain ⟨b, rfl⟩ := okB_of g.1
  obtain ⟨l, rfl⟩ := str_cases s
  have g2 := Nat.le_of_ble_eq_true g.2
  rw [size_mk] at g2
  refine Runs.by (inText_e · _ _) ?_
  rw [u8_of, bl_mk]
  exact .go (by simpa using inText_loop l b g2 l.length 0 (by omega))
theorem le_32 (b : UInt8) : leI 32 (b.toNat : Int) = decide (32 ≤ b) := le_u8 32 b
theorem le_126 (b : UInt8) : leI (b.toNat : Int) 126 = decide (b ≤ 126) := le_u8 b 126
theorem writable_holds : Holds k_writable := con_run (xs := []) hold0 fun aa hp r h => by
  split at h
  case h_2 => cases h
  obtain ⟨g, rfl⟩ := xo h
  obtain ⟨b, rfl⟩ := okB_of g
  refine Runs.by (writable_e · _) ?_
  have e9 := beq_nat8 b 9 (by decide)
  have e10 := beq_nat8 b 10 (by decide)
  rw [show ((9 : Nat) : Int) = 9 from rfl, show UInt8.ofNat 9 = 9 from rfl] at e9
  rw [show ((10 : Nat) : Int) = 10 from rfl, show UInt8.ofNat 10 = 10 from rfl] at e10
  rw [e9, e10, le_32, le_126, u8_of]
  unfold visB
  by_cases h1 : b = 9
  · rw [decide_eq_true h1]; exact .ret
  · rw [decide_eq_false h1]
    by_cases h2 : b = 10
    · rw [decide_eq_true h2]; exact .ret
    · rw [decide_eq_false h2]
      by_cases h3 : 32 ≤ b
      · rw [decide_eq_true h3]; exact .ret' (by simp)
      · rw [decide_eq_false h3]; exact .ret' (by simp)
theorem quoted_holds : Holds k_quoted := con_run (xs := [k_inText]) (hold1 inText_holds hold0) fun aa hp r h => by
  split at h
  case h_2 => cases h
  rename_i c m
  obtain ⟨g, rfl⟩ := xo h
  have g' := g
  rw [Bool.and_eq_true] at g
  obtain ⟨b, rfl⟩ := okB_of g.1
  refine Runs.by (quoted_e · _ _) ?_
  have e9 := beq_nat8 b 9 (by decide)
  have e10 := beq_nat8 b 10 (by decide)
  rw [show ((9 : Nat) : Int) = 9 from rfl, show UInt8.ofNat 9 = 9 from rfl] at e9
  rw [show ((10 : Nat) : Int) = 10 from rfl, show UInt8.ofNat 10 = 10 from rfl] at e10
  rw [e9, e10, u8_of, g', one_b, app_mk]
  unfold wrB
  by_cases h1 : b = 9
  · rw [decide_eq_true h1, if_pos h1]; exact .ret
  · rw [decide_eq_false h1, if_neg h1]
    by_cases h2 : b = 10
    · rw [decide_eq_true h2, if_pos h2]; exact .ret
    · rw [decide_eq_false h2, if_neg h2]
      by_cases h3 : b ∈ bl m
      · rw [decide_eq_true h3, if_pos h3]; exact .ret
      · rw [decide_eq_false h3, if_neg h3]; exact .ret
theorem rranges_loop (l : List (UInt8 × UInt8)) (hl : l.length ≤ 1000000000000) : ∀ (k i : Nat) (acc : List UInt8), i + k = l.length → acc.length ≤ 5 * i →
    Runs (cfg [k_writable, k_quoted]) (rranges_q3 (encRs l) (mk acc) (i : Nat))
      (cond ((l.drop i).all fun r => visB r.1 && visB r.2) [.str (mk (acc ++ (l.drop i).flatMap inR)), .bool true] [.str (mk []), .bool false])
  | 0, i, acc, h, ha => by
    refine Runs.by (rranges_p3 · _ _ _) ?_
    simp (disch := omega) only [encRs_len, ev_lt_f, cond_false]
    rw [drop_end (by omega)]
    refine .ret' ?_
    simp
  | k + 1, i, acc, h, ha => by
    refine Runs.by (rranges_p3 · _ _ _) ?_
    have hi : i < l.length := by omega
    have w1 := wrB_len (l.getD i (0, 0)).1 insB
    have w2 := wrB_len (l.getD i (0, 0)).2 insB
    have hr := inR_len (l.getD i (0, 0))
    rw [drop_at (0, 0) hi]
    have ih := rranges_loop l hl k (i + 1) (acc ++ inR (l.getD i (0, 0))) (by omega) (by rw [List.length_append]; omega)
    rw [List.all_cons, List.flatMap_cons]
    simp (disch := omega) only [encRs_len, ev_lt_t, ev_le_t, cond_true, Bool.and_self, rs_at, cI0, cI1, w64, okB_u8, u8_of, bl_mk, size_mk, app_mk, imax]
    simp only [show ([92, 91, 93, 94, 45] : List UInt8) = insB from rfl]
    simp only [List.length_append, List.length_cons, List.length_nil]
    simp (disch := omega) only [ev_le_t, cond_true]
    cases v1 : visB (l.getD i (0, 0)).1 with
    | false => exact .ret
    | true =>
      cases v2 : visB (l.getD i (0, 0)).2 with
      | false => exact .ret
      | true =>
        simp only [Bool.not_true, cond_false, Bool.true_and]
        rw [lt_u8]
        unfold inR at ih ⊢
        by_cases h3 : (l.getD i (0, 0)).1 < (l.getD i (0, 0)).2
        · rw [decide_eq_true h3]
          rw [if_pos h3] at ih ⊢
          refine .go ?_
          have e : acc ++ wrB (l.getD i (0, 0)).1 insB ++ [45] ++ wrB (l.getD i (0, 0)).2 insB = acc ++ (wrB (l.getD i (0, 0)).1 insB ++ 45 :: wrB (l.getD i (0, 0)).2 insB) := by simp
          rw [e]
          have e2 : acc ++ (wrB (l.getD i (0, 0)).1 insB ++ 45 :: wrB (l.getD i (0, 0)).2 insB ++ (l.drop (i + 1)).flatMap inR) = acc ++ (wrB (l.getD i (0, 0)).1 insB ++ 45 :: wrB (l.getD i (0, 0)).2 insB) ++ (l.drop (i + 1)).flatMap inR := by simp
          unfold inR at e2
          rw [e2]
          exact ih
        · rw [decide_eq_false h3]
          rw [if_neg h3] at ih ⊢
          rw [List.append_nil] at ih ⊢
          refine .go ?_
          rw [← List.append_assoc]
          exact ih
theorem rranges_holds : Holds k_rranges := con_run (xs := [k_writable, k_quoted]) (hold1 writable_holds (hold1 quoted_holds hold0)) fun aa hp r h => by
  split at h
  case h_2 => cases h
  obtain ⟨g, rfl⟩ := xo h
  obtain ⟨l, rfl, hl⟩ := isRs_of g
  refine Runs.by (rranges_e · _) ?_
  have := rranges_loop l hl l.length 0 [] (by omega) (by simp)
  rw [decRs_enc]
  unfold ranR
  rw [List.drop_zero] at this
  refine .go ?_
  cases hv : l.all fun r => visB r.1 && visB r.2 with
  | true => rw [hv] at this; simpa using this
  | false => rw [hv] at this; simpa using this
theorem ranR_len (l : List (UInt8 × UInt8)) : (ranR l).1.length ≤ 5 * l.length := by
  unfold ranR
  split
  · exact flat_len l
  · simp
theorem canR_ff (l : List (UInt8 × UInt8)) : canR (fun j => !(hasI l (j : Nat) == false)) 256 = canR (fun j => hasI l (j : Nat)) 256 := canR_congr fun j _ => by cases hasI l (j : Int) <;> rfl
theorem canR_tt (l : List (UInt8 × UInt8)) : canR (fun j => !(hasI l (j : Nat) == true)) 256 = canR (fun j => !(hasI l (j : Nat))) 256 := canR_congr fun j _ => by cases hasI l (j : Int) <;> rfl
theorem ofSet_holds : Holds k_ofSet := con_run (xs := [k_Ranges, k_sameSet, k_writable, k_quoted, k_rranges]) (hold1 rRanges_holds (hold1 sameSet_holds (hold1 writable_holds (hold1 quoted_holds (hold1 rranges_holds hold0))))) fun aa hp r h => by
  split at h
  case h_2 => cases h
  obtain ⟨g, rfl⟩ := xo h
  obtain ⟨l, rfl, hl⟩ := isRs_of g
  refine Runs.by (ofSet_e · _) ?_
  have hm := canR_len (fun j => !(hasI l (j : Nat))) 256
  have hc := canR_len (fun j => hasI l (j : Nat)) 256
  simp only [decRs_enc, canR_ff, canR_tt, isRs_enc hl, isRs_enc (x := canR (fun j => hasI l (j : Nat)) 256) (by omega), isRs_enc (x := canR (fun j => !(hasI l (j : Nat))) 256) (by omega), encRs_len, Bool.and_self, cond_true]
  unfold setR
  by_cases h1 : canR (fun j => hasI l (j : Nat)) 256 = l
  · rw [decide_eq_true h1.symm, if_neg (by simpa using h1)]
    have hl2 : l.length ≤ 256 := by rw [h1] at hc; exact hc
    generalize hmm : canR (fun j => !(hasI l (j : Nat))) 256 = m at *
    have r1 := ranR_len l
    have r2 := ranR_len m
    simp only [size_mk, app_mk, imax, List.length_append, List.length_cons, List.length_nil, Bool.not_true, cond_false]
    simp (disch := omega) only [ev_le_t, cond_true]
    -- behind the test of a single byte
    have tail : RunsF (cfg [k_Ranges, k_sameSet, k_writable, k_quoted, k_rranges]) (fun _ =>
        cond ((m.length : Int) == 1) (cond (ltI 0 (m.length : Int)) (cond (cI 0 (atL (encRs m) 0) == 10) (cond (ltI 0 (m.length : Int)) (cond (cI 1 (atL (encRs m) 0) == 10) (some [.str (mk [46]), .bool true])
          (cond (ranR l).2 (some [.str (mk ([91] ++ (ranR l).1 ++ [93])), .bool true]) (cond (ranR m).2 (cond (ltI 0 (m.length : Int)) (some [.str (mk ([91, 94] ++ (ranR m).1 ++ [93])), .bool true]) (some [.str (mk []), .bool false])) (some [.str (mk []), .bool false])))) none)
          (cond (ranR l).2 (some [.str (mk ([91] ++ (ranR l).1 ++ [93])), .bool true]) (cond (ranR m).2 (cond (ltI 0 (m.length : Int)) (some [.str (mk ([91, 94] ++ (ranR m).1 ++ [93])), .bool true]) (some [.str (mk []), .bool false])) (some [.str (mk []), .bool false])))) none)
          (cond (ranR l).2 (some [.str (mk ([91] ++ (ranR l).1 ++ [93])), .bool true]) (cond (ranR m).2 (cond (ltI 0 (m.length : Int)) (some [.str (mk ([91, 94] ++ (ranR m).1 ++ [93])), .bool true]) (some [.str (mk []), .bool false])) (some [.str (mk []), .bool false]))))
        (cells2 (if m = [(10, 10)] then ([46], true) else if (ranR l).2 then ([91] ++ (ranR l).1 ++ [93], true) else if (ranR m).2 ∧ 0 < m.length then ([91, 94] ++ (ranR m).1 ++ [93], true) else ([], false))) := by
      have T2 : RunsF (cfg [k_Ranges, k_sameSet, k_writable, k_quoted, k_rranges]) (fun _ => cond (ranR l).2 (some [.str (mk ([91] ++ (ranR l).1 ++ [93])), .bool true]) (cond (ranR m).2 (cond (ltI 0 (m.length : Int)) (some [.str (mk ([91, 94] ++ (ranR m).1 ++ [93])), .bool true]) (some [.str (mk []), .bool false])) (some [.str (mk []), .bool false])))
          (cells2 (if (ranR l).2 then ([91] ++ (ranR l).1 ++ [93], true) else if (ranR m).2 ∧ 0 < m.length then ([91, 94] ++ (ranR m).1 ++ [93], true) else ([], false))) := by
        cases (ranR l).2 with
        | true => exact .ret
        | false =>
          cases (ranR m).2 with
          | true =>
            by_cases h0 : 0 < m.length
            · rw [ev_lt_t (by omega), if_neg (by decide), if_pos ⟨rfl, h0⟩]; exact .ret
            · rw [ev_lt_f (by omega), if_neg (by decide), if_neg (fun h => h0 h.2)]; exact .ret
          | false => rw [if_neg (by decide), if_neg (fun h => by cases h.1)]; exact .ret
      by_cases hm1 : m.length = 1
      · match m, hm1 with
        | [(a, b)], _ =>
          have e1 : atL (encRs [(a, b)]) 0 = [.int .u8 a.toNat, .int .u8 b.toNat] := rfl
          have ea := beq_nat8 a 10 (by decide)
          have eb := beq_nat8 b 10 (by decide)
          rw [show ((10 : Nat) : Int) = 10 from rfl, show UInt8.ofNat 10 = 10 from rfl] at ea eb
          rw [e1, cI0, cI1, ea, eb]
          by_cases ha : a = 10
          · by_cases hb : b = 10
            · subst ha hb
              rw [if_pos rfl]
              exact .ret
            · rw [decide_eq_true ha, decide_eq_false hb, if_neg (by intro h; simp only [List.cons.injEq, Prod.mk.injEq, and_true] at h; exact hb h.2)]
              exact T2
          · rw [decide_eq_false ha, if_neg (by intro h; simp only [List.cons.injEq, Prod.mk.injEq, and_true] at h; exact ha h.1)]
            exact T2
      · rw [ev_eq_f (a := (m.length : Int)) (by omega), if_neg (by intro h; rw [h] at hm1; exact hm1 rfl)]
        exact T2
    by_cases h2 : l.length = 1
    · have ha : atL (encRs l) 0 = [.int .u8 (l.getD 0 (0, 0)).1.toNat, .int .u8 (l.getD 0 (0, 0)).2.toNat] := rs_at l (i := 0) (by omega)
      rw [ha, cI0, cI1, beq_u8, okB_u8, u8_of, ev_eq_t (a := (l.length : Int)) (by omega), ev_lt_t (a := 0) (b := (l.length : Int)) (by omega)]
      simp only [cond_true, bl_mk, Bool.and_self]
      by_cases h3 : (l.getD 0 (0, 0)).1 = (l.getD 0 (0, 0)).2
      · rw [decide_eq_true h3]
        cases h4 : visB (l.getD 0 (0, 0)).1 with
        | true => rw [if_pos ⟨h2, h3, rfl⟩]; exact .ret
        | false => rw [if_neg (by simp)]; exact tail
      · rw [decide_eq_false h3, if_neg (fun ⟨_, h, _⟩ => h3 h)]; exact tail
    · rw [ev_eq_f (a := (l.length : Int)) (by omega), if_neg (fun ⟨h, _⟩ => h2 h)]
      exact tail
  · rw [decide_eq_false (fun h => h1 h.symm), if_pos h1]
    exact .ret
theorem dig_all : ∀ m : Fin 100, (cond (leI 10 (m.val : Int)) ([[L.int IntKind.u8 (wrapI IntKind.u8 (wrapI IntKind.i64 (48 + Int.tmod (IntKind.wrap IntKind.i64 (Int.tdiv (m.val : Int) 10)) 10)))], [L.int IntKind.u8 (wrapI IntKind.u8 (wrapI IntKind.i64 (48 + Int.tmod (m.val : Int) 10)))]].map (fun c => UInt8.ofNat (Int.toNat (cI 0 c)))) ([[L.int IntKind.u8 (wrapI IntKind.u8 (wrapI IntKind.i64 (48 + (m.val : Int))))]].map (fun c => UInt8.ofNat (Int.toNat (cI 0 c))))) = decN (m.val : Int) := by decide +kernel
theorem digits_holds : Holds k_digits := con_run (xs := []) hold0 fun aa hp r h => by
  split at h
  case h_2 => cases h
  rename_i n
  obtain ⟨g, rfl⟩ := xo h
  rw [Bool.and_eq_true] at g
  have g1 := leI_t g.1
  have g2 := leI_t g.2
  obtain ⟨m, rfl⟩ : ∃ m : Nat, n = m := ⟨n.toNat, by omega⟩
  have hd := dig_all ⟨m, by omega⟩
  refine Runs.by (digits_e · _) ?_
  simp only [] at hd
  rw [← hd]
  cases leI 10 (m : Int) <;> exact .ret
theorem suffix_holds : Holds k_suffix := con_run (xs := [k_digits]) (hold1 digits_holds hold0) fun aa hp r h => by
  split at h
  case h_2 => cases h
  rename_i mn mx
  obtain ⟨g, rfl⟩ := xo h
  simp only [Bool.and_eq_true] at g
  obtain ⟨⟨g1, g2⟩, g3, g4⟩ := g
  refine Runs.by (suffix_e · _ _) ?_
  have d1 := decN_len mn
  have d2 := decN_len mx
  have ec : (mx == mn) = (mn == mx) := by rw [Bool.eq_iff_iff, beq_iff_eq, beq_iff_eq]; exact ⟨Eq.symm, Eq.symm⟩
  rw [g1, g2, g4, ec]
  simp only [size_mk, app_mk, imax, List.length_append, List.length_cons, List.length_nil]
  simp (disch := omega) only [ev_le_t, cond_true, Bool.and_self, Bool.and_true]
  have g3' := leI_t g3
  unfold sufP
  cases h1 : mn == 0 <;> cases h2 : mn == 1 <;> cases h3 : mx == -1 <;> cases h4 : mx == 1 <;> cases h5 : mn == mx <;> (try exact .ret) <;>
    (have h6 : leI 0 mx = true := ev_le_t (by rw [beq_false_int] at h3; omega)
     rw [h6]; exact .ret)
/-! ### lengths -/
theorem setR_len (l : List (UInt8 × UInt8)) : (setR l).1.length ≤ 2000 := by
  unfold setR
  split
  · simp
  · rename_i h
    have h := Decidable.of_not_not h
    have h1 := canR_len (fun j => hasI l (j : Nat)) 256
    rw [h] at h1
    split
    · have := wrB_len (l.getD 0 (0, 0)).1 spcs
      show (wrB (l.getD 0 (0, 0)).1 spcs).length ≤ 2000
      omega
    · split
      · simp
      · split
        · have := ranR_len l
          show ([91] ++ (ranR l).1 ++ [93]).length ≤ 2000
          simp; omega
        · split
          · have h2 := canR_len (fun j => !(hasI l (j : Nat))) 256
            have := ranR_len (canR (fun j => !(hasI l (j : Nat))) 256)
            show ([91, 94] ++ (ranR (canR (fun j => !(hasI l (j : Nat))) 256)).1 ++ [93]).length ≤ 2000
            simp; omega
          · simp
theorem canP_eq (x : Rx) : canP x = if x.kind = 1 then setR x.set else if x.kind = 5 then ([94], true) else if x.kind = 6 then ([36], true) else if x.kind = 7 then ([92, 98], true)
    else if x.kind = 4 then canH x.mn x.mx x.subs
    else if x.kind = 2 ∧ x.subs.length = 1 then ([], false) else canL x.kind x.subs [] true := by cases x; rw [canP]; rfl
theorem canL_len (k : Int) : ∀ (l : List Rx) (acc : List UInt8) (f : Bool), (∀ y ∈ l, (canP y).1.length + 10 ≤ 2030 * y.nodes) → (canL k l acc f).1.length ≤ acc.length + 2030 * nodesL l
  | [], acc, f, _ => by rw [canL]; simp
  | y :: l, acc, f, h => by
    rw [canL, nodesL]
    have h1 := h y List.mem_cons_self
    have h2 := wrapP_len (ksOf k) y (canP y).1
    split
    · have ih := canL_len k l (acc ++ (if k = 3 ∧ f = false then [124] else []) ++ wrapP (ksOf k) y (canP y).1) false fun z hz => h z (List.mem_cons_of_mem _ hz)
      have h3 : (if k = 3 ∧ f = false then ([124] : List UInt8) else []).length ≤ 1 := by split <;> simp
      simp only [List.length_append] at ih
      omega
    · simp
theorem canP_len : ∀ (n : Nat) (x : Rx), x.lev ≤ n → (canP x).1.length + 10 ≤ 2030 * x.nodes
  | 0, x, h => (no_lev h).elim
  | n + 1, x, h => by
    have hs : ∀ y ∈ x.subs, (canP y).1.length + 10 ≤ 2030 * y.nodes := fun y hy => canP_len n y (by have := lev_sub hy; omega)
    have hp := setR_len x.set
    have hL := canL_len x.kind x.subs [] true hs
    have hsuf := sufP_len x.mn x.mx
    rw [canP_eq, nodes_eq]
    split
    · omega
    · split
      · simp; omega
      · split
        · simp; omega
        · split
          · simp; omega
          · split
            · cases hsub : x.subs with
              | nil => rw [canH]; simp; omega
              | cons y l =>
                have h1 := hs y (by rw [hsub]; exact List.mem_cons_self)
                have h2 := wrapP_len [2, 3, 4] y (canP y).1
                rw [canH, nodesL]
                simp only [List.length_append]
                omega
            · split
              · simp; omega
              · simp at hL; omega
theorem inner_holds {n : Nat} (hC : Holds (k_canonical n)) : Holds (k_inner n) := con_run (xs := [k_canonical n]) (hold1 hC hold0) fun aa hp r h => by
  split at h
  case h_2 => cases h
  rename_i k a0 a1 a2 a3 a4
  obtain ⟨g, rfl⟩ := xo h
  have g' := g
  simp only [Bool.and_eq_true] at g
  obtain ⟨⟨g1, g2⟩, g3, g4, g5⟩ := g
  rw [Bool.and_eq_true] at g'
  obtain ⟨x, rfl, rfl, rfl, rfl, rfl, ho, hl⟩ := isX5 g3
  refine Runs.by (inner_e · _ _ _ _ _ _ _) ?_
  rw [g'.2]
  simp only [dec5] at g5 ⊢
  have hn := Nat.le_of_ble_eq_true g5
  have hlen := canP_len _ x (Nat.le_refl _)
  have k1 := leI_t g1
  have k2 := leI_t g2
  simp only [size_mk, app_mk, imax, List.length_append, List.length_cons, List.length_nil]
  simp (disch := omega) only [ev_le_t, cond_true]
  unfold wrapP ksOf
  have hk : k = 2 ∨ k = 3 ∨ k = 4 := by omega
  rcases hk with rfl | rfl | rfl
  · by_cases h3 : x.kind = 3
    · rw [ev_eq_t h3]; exact .ret' (by simp [h3])
    · rw [ev_eq_f h3]
      by_cases h2 : x.kind = 2
      · rw [ev_eq_t h2]; exact .ret' (by simp [h2])
      · rw [ev_eq_f h2]; exact .ret' (by simp [h2, h3])
  · by_cases h3 : x.kind = 3
    · rw [ev_eq_t h3]; exact .ret' (by simp [h3])
    · rw [ev_eq_f h3]; exact .ret' (by simp [h3])
  · by_cases h3 : x.kind = 3
    · rw [ev_eq_t h3]; exact .ret' (by simp [h3])
    · rw [ev_eq_f h3]
      by_cases h2 : x.kind = 2
      · rw [ev_eq_t h2]; exact .ret' (by simp [h2])
      · rw [ev_eq_f h2]
        by_cases h4 : x.kind = 4
        · rw [ev_eq_t h4]; exact .ret' (by simp [h4])
        · rw [ev_eq_f h4]; exact .ret' (by simp [h2, h3, h4])
theorem canonical_loop {m : Nat} {x : Rx} (ho : x.ok) (hl : x.lev ≤ m + 1) (hs : ∀ y ∈ x.subs, nodeS y = 0) (hn : nodesL x.subs ≤ 1000) (hk : x.kind = 2 ∨ x.kind = 3) : ∀ (k i : Nat) (acc : List UInt8), i + k = x.subs.length → acc.length + 2030 * nodesL (x.subs.drop i) ≤ 2030000 →
    Runs (cfg [k_ofSet, k_inner m, k_suffix]) (canonical_q16 (mk acc) (i : Nat) x.kind (encRs x.set) x.mn x.mx (x.subs.map encX)) [.str (mk (canL x.kind (x.subs.drop i) acc (decide (i = 0))).1), .bool (canL x.kind (x.subs.drop i) acc (decide (i = 0))).2]
  | 0, i, acc, h, _ => by
    refine Runs.by (canonical_p16 · _ _ _ _ _ _ _ _) ?_
    simp (disch := omega) only [List.length_map, ev_lt_f, cond_false]
    rw [drop_end (by omega), canL]
    exact .ret
  | k + 1, i, acc, h, ha => by
    refine Runs.by (canonical_p16 · _ _ _ _ _ _ _ _) ?_
    have hi : i < x.subs.length := by omega
    have hsl := ok_subs ho
    have m1 := subs_in ho hl _ (mem_getD hi)
    have m2 := hs _ (mem_getD hi)
    have m3 := nodesL_mem (mem_getD hi)
    have m4 := canP_len _ (x.subs.getD i default) (Nat.le_refl _)
    have m5 := wrapP_len (ksOf x.kind) (x.subs.getD i default) (canP (x.subs.getD i default)).1
    rw [nodesL_drop hi] at ha
    simp (disch := omega) only [List.length_map, ev_lt_t, ev_le_t, cond_true, Bool.and_self, xs_at, el_enc, w64, isX_enc m1.1 m1.2, decX_enc, right_beq m2, ev_blt, size_mk, app_mk, imax, List.length_append, List.length_cons, List.length_nil]
    rw [drop_at default hi, canL]
    cases hc : (canP (x.subs.getD i default)).2 with
    | false => exact .ret
    | true =>
      rw [if_pos rfl]
      simp only [Bool.not_true, cond_false]
      have ih := fun acc' h' => canonical_loop ho hl hs hn hk k (i + 1) acc' (by omega) h'
      have e0 : decide (i + 1 = 0) = false := by simp
      rw [e0] at ih
      by_cases h3 : x.kind = 3
      · rw [ev_eq_t h3]
        by_cases h0 : i = 0
        · subst h0
          rw [ev_lt_f (by omega), if_neg (by simp)]
          simp only [cond_false, cond_true, List.append_nil]
          exact .go (by simpa using ih (acc ++ wrapP (ksOf x.kind) (x.subs.getD 0 default) (canP (x.subs.getD 0 default)).1) (by rw [List.length_append]; omega))
        · rw [ev_lt_t (by omega), if_pos ⟨h3, by simp [h0]⟩]
          simp only [cond_true]
          exact .go (by have := ih (acc ++ [124] ++ wrapP (ksOf x.kind) (x.subs.getD i default) (canP (x.subs.getD i default)).1) (by simp only [List.length_append, List.length_cons, List.length_nil]; omega); push_cast at this; exact this)
      · rw [ev_eq_f h3, if_neg (fun h => h3 h.1)]
        simp only [cond_false, List.append_nil]
        exact .go (by simpa using ih (acc ++ wrapP (ksOf x.kind) (x.subs.getD i default) (canP (x.subs.getD i default)).1) (by rw [List.length_append]; omega))
theorem canonical_holds : ∀ n, Holds (k_canonical n)
  | 0 => cX1t_of (xs := []) hold0 fun x ho hl hr hn => (no_lev hl).elim
  | n + 1 => cX1t_of (xs := [k_ofSet, k_inner n, k_suffix]) (hold1 ofSet_holds (hold1 (inner_holds (canonical_holds n)) (hold1 suffix_holds hold0))) fun x ho hl hr hn => by
    obtain ⟨hf, hc, hs⟩ := right_of hr
    obtain ⟨f1, f2, f3, f4, f5, f6, f7, f8⟩ := hf
    refine Runs.by (canonical_e · _ _ _ _ _ _) ?_
    have hn' : nodesL x.subs ≤ 1000 := by rw [nodes_eq] at hn; omega
    rw [isRs_enc (ok_set ho), decRs_enc, canP_eq x, List.length_map]
    by_cases k1 : x.kind = 1
    · rw [ev_eq_t k1, if_pos k1]; exact .ret
    · rw [ev_eq_f k1, if_neg k1]
      by_cases k5 : x.kind = 5
      · rw [ev_eq_t k5, if_pos k5]; exact .ret
      · rw [ev_eq_f k5, if_neg k5]
        by_cases k6 : x.kind = 6
        · rw [ev_eq_t k6, if_pos k6]; exact .ret
        · rw [ev_eq_f k6, if_neg k6]
          by_cases k7 : x.kind = 7
          · rw [ev_eq_t k7, if_pos k7]; exact .ret
          · rw [ev_eq_f k7, if_neg k7]
            by_cases k4 : x.kind = 4
            · rw [ev_eq_t k4, if_pos k4]
              have hl1 := f5 k4
              match hsub : x.subs, hl1 with
              | [y], _ =>
                have hy : y ∈ x.subs := by rw [hsub]; exact List.mem_cons_self
                have m1 := subs_in ho hl y hy
                have m2 := hs y hy
                have m3 := nodesL_mem hy
                have m4 := canP_len _ y (Nat.le_refl _)
                have m5 := wrapP_len [2, 3, 4] y (canP y).1
                have m6 := sufP_len x.mn x.mx
                have ea : atL ([y].map encX) 0 = encX y := rfl
                have eks : ksOf x.kind = [2, 3, 4] := by unfold ksOf; rw [if_neg (by omega), if_pos k4]
                unfold cntP at hc
                have b1 : 0 ≤ x.mn ∧ x.mn ≤ 99 ∧ -1 ≤ x.mx ∧ x.mx ≤ 99 := by omega
                obtain ⟨b1, b2, b3, b4⟩ := b1
                rw [ea, el_enc, decX_enc, eks, isX_enc m1.1 m1.2, right_beq m2, canH]
                simp only [size_mk, app_mk, imax, List.length_cons, List.length_nil]
                simp (disch := omega) only [dupN_eq, both_self, ev_lt_t, ev_le_t, ev_blt, cond_true, Bool.and_self]
                exact .ret
            · rw [ev_eq_f k4, if_neg k4]
              by_cases k2 : x.kind = 2
              · rw [ev_eq_t k2]
                by_cases h1 : x.subs.length = 1
                · rw [ev_eq_t (a := (x.subs.length : Int)) (b := 1) (by omega), if_pos ⟨k2, h1⟩]; exact .ret
                · rw [ev_eq_f (a := (x.subs.length : Int)) (b := 1) (by omega), if_neg (fun h => h1 h.2)]
                  exact .go (by simpa using canonical_loop ho hl hs hn' (.inl k2) x.subs.length 0 [] (by omega) (by simp; omega))
              · rw [ev_eq_f k2, if_neg (fun h => k2 h.1)]
                exact .go (by simpa using canonical_loop ho hl hs hn' (.inr (by omega)) x.subs.length 0 [] (by omega) (by simp; omega))
theorem rPrint_holds : Holds k_rPrint := cX1_of (xs := [k_rRight, k_canonical 12]) (hold1 rRight_holds (hold1 (canonical_holds 12) hold0)) fun x ho hl => by
  refine Runs.by (rPrint_e · _ _ _ _ _) ?_
  rw [dec5, is5 ho hl]
  unfold printR
  by_cases h : rightS x = 0
  · have h' : (rightS x != 0) = false := ev_ne_f h
    rw [h', if_neg (by simp [h])]
    have hn := rightS_node h
    have hr := h
    unfold rightS at hr
    rw [ev_ne_f hn, cond_false] at hr
    have hb : (ltI 40 (x.nodes : Nat) || ltI 12 (x.lev : Nat)) = false := by
      cases hb : (ltI 40 (x.nodes : Nat) || ltI 12 (x.lev : Nat)) with
      | true => rw [hb] at hr; cases hr
      | false => rfl
    rw [Bool.or_eq_false_iff] at hb
    have b1 := ltI_f hb.1
    have b2 := ltI_f hb.2
    have hi := is5 (n := 12) ho (by omega)
    rw [hi, right_beq hn]
    simp (disch := omega) only [ev_blt, cond_true, cond_false, Bool.and_self, size_mk]
    cases ht : (canP x).2 with
    | false => rw [if_pos (.inl rfl)]; exact .ret
    | true =>
      simp only [Bool.not_true, cond_false]
      by_cases h3 : 300 < (canP x).1.length
      · rw [ev_lt_t (by omega), if_pos (.inr h3)]; exact .ret
      · rw [ev_lt_f (by omega), if_neg (by simp; omega)]; exact .ret
  · rw [ev_ne_t h, if_pos h]; exact .ret
end Go.Ab
namespace Go.Ab
open Go.Proofs

theorem litZ : ([L.int .i64 0, .lst 48 [], .int .i64 0, .int .i64 0, .lst 25 []] : List L) = encX zeroX := by kernel_rfl
theorem run_RegexBack (x : Rx) : Runs (cfg [k_alive, k_small, k_Print, k_Parse, k_Right, k_rSame 1000000000000]) (.enter 7 [argX x] []) [.bool true] := by
  refine Runs.by (LBack_e · _ _ _ _ _) ?_
  simp only [dec5, isXa5, cond_true, bl_mk, size_mk]
  cases h1 : smallX x with
  | false => exact .ret
  | true =>
    obtain ⟨a1, a2, a3⟩ := small_ok h1
    simp only [Bool.not_true, cond_false, is5 a1 (ok_lev a1), cond_true]
    by_cases h : (printP x).2 = 0
    · obtain ⟨b1, b2, b3⟩ := back x h
      rw [ev_ne_f h, b1, ev_blt (show (printP x).1.length ≤ 9223372036854775807 by omega)]
      simp only [cond_false, cond_true, beq_self_eq_true, b2, dec5, is5 a1 (ok_lev a1), Bool.and_self, sameX_refl]
      exact .ret
    · rw [ev_ne_t h, print_err x h]
      exact .ret
theorem run_RegexAgain (s : ByteArray) : Runs (cfg [k_alive, k_Parse, k_rSame 1000000000000, k_Right, k_Print]) (.enter 8 [.lf (.str s)] []) [.bool true] := by
  obtain ⟨l, rfl⟩ := str_cases s
  refine Runs.by (LAgain_e · _) ?_
  simp only [bl_mk, size_mk]
  by_cases hl : 600 < l.length
  · rw [ev_lt_t (by omega)]; exact .ret
  · obtain ⟨a1, a2⟩ := parseP_ok l
    have al := ok_lev a1
    rw [ev_lt_f (by omega), ev_blt (show l.length ≤ 9223372036854775807 by omega)]
    simp only [cond_false, cond_true]
    by_cases h : (parseP l).2 = 0
    · have hr := parse_right l h
      rw [ev_ne_f h]
      refine .go ?_
      refine Runs.by (LAgain_p8 · _ _ _ _ _) ?_
      rw [dec5, is5 a1 al, hr]
      refine .go ?_
      refine Runs.by (LAgain_p10 · _ _ _ _ _) ?_
      rw [dec5, is5 a1 al]
      by_cases hp : (printP (parseP l).1).2 = 0
      · obtain ⟨b1, b2, b3⟩ := back _ hp
        rw [ev_ne_f hp]
        refine .go ?_
        refine Runs.by (LAgain_p13 · _ _ _ _ _ _) ?_
        simp only [bl_mk, size_mk]
        rw [ev_blt (show (printP (parseP l).1).1.length ≤ 9223372036854775807 by omega), b1]
        refine .go ?_
        refine Runs.by (LAgain_p14 · _ _ _ _ _ _ _ _ _ _ _ _) ?_
        simp only [dec5, is5 a1 al, bl_mk, size_mk, hp, beq_self_eq_true, sameX_refl, Bool.and_self, cond_true]
        rw [ev_le_t (by omega)]
        exact .ret
      · rw [ev_ne_t hp, print_right hr hp]
        exact .ret
    · have hz := parse_err l h
      rw [ev_ne_t h]
      simp only [cond_true, hz, dec5, is5 zeroX_ok (ok_lev zeroX_ok), litZ, isX_enc zeroX_ok (ok_lev zeroX_ok), decX_enc, sameX_refl, Bool.and_self]
      exact .ret
end Go.Ab
namespace Go.Ab
open Go.Proofs

theorem ran_ins {l : Rng} (h : l ≠ []) : insL l = ranR l := by
  unfold insL ranR
  have : decide (0 < l.length) = true := decide_eq_true (by cases l with | nil => exact absurd rfl h | cons a b => simp)
  rw [this]
/-- What two writers say is the same where the second writes. -/
def sameW (a b : List UInt8 × Bool) : Prop := a.2 = b.2 ∧ (b.2 = true → a.1 = b.1)
theorem sameW.rfl {a : List UInt8 × Bool} : sameW a a := ⟨Eq.refl _, fun _ => Eq.refl _⟩
theorem set_same {l : Rng} (h : l ≠ []) : sameW (setR l) (setP l) := by
  unfold setR setP
  rw [ran_ins h]
  split
  · exact .rfl
  · split
    · exact .rfl
    · split
      · exact .rfl
      · split
        · exact .rfl
        · generalize canR (fun j => !(hasI l (j : Nat))) 256 = m
          cases m with
          | nil =>
            rw [if_neg (fun h => absurd h.2 (by simp))]
            exact ⟨Eq.refl _, fun h => by cases h⟩
          | cons a m =>
            rw [ran_ins (List.cons_ne_nil a m)]
            cases hb : (ranR (a :: m)).2 with
            | true =>
              rw [if_pos ⟨Eq.refl _, by simp⟩]
              exact .rfl
            | false =>
              rw [if_neg (fun h => by cases h.1)]
              exact ⟨Eq.refl _, fun h => by cases h⟩
theorem canL_same (k : Int) : ∀ (l : List Rx) (acc : List UInt8) (f : Bool), (∀ y ∈ l, sameW (canP y) (textP y)) →
    canL k l acc f = match textL (ksOf k) l with
      | some ws => (acc ++ (match ws with
        | [] => []
        | w :: ws => (if k = 3 ∧ f = false then [124] else []) ++ w ++ (ws.map fun w => (if k = 3 then [124] else []) ++ w).flatten), true)
      | none => ([], false)
  | [], acc, f, _ => by rw [canL, textL]; simp
  | y :: l, acc, f, h => by
    obtain ⟨h1, h2⟩ := h y List.mem_cons_self
    have ih := canL_same k l (acc ++ (if k = 3 ∧ f = false then [124] else []) ++ wrapP (ksOf k) y (canP y).1) false fun z hz => h z (List.mem_cons_of_mem _ hz)
    rw [canL, textL_cons, h1]
    cases ht : (textP y).2 with
    | false => rw [if_neg (by decide), if_neg (by decide)]
    | true =>
      rw [if_pos rfl, if_pos rfl, ih, h2 ht]
      cases hl : textL (ksOf k) l with
      | none => simp
      | some ws =>
        simp only [Option.map_some]
        cases ws with
        | nil => simp
        | cons w ws => simp
theorem can_same : ∀ (m : Nat) (x : Rx), x.lev ≤ m → nodeS x = 0 → sameW (canP x) (textP x)
  | 0, x, h, _ => (no_lev h).elim
  | m + 1, x, hl, hr => by
    obtain ⟨hf, hc, hs⟩ := right_of hr
    obtain ⟨f1, f2, f3, f4, f5, f6, f7, f8⟩ := hf
    have ih : ∀ y ∈ x.subs, sameW (canP y) (textP y) := fun y hy => can_same m y (by have := lev_sub hy; omega) (hs y hy)
    rw [canP_eq, textP_eq]
    by_cases k1 : x.kind = 1
    · rw [if_pos k1, if_pos k1]
      exact set_same fun e => by have := f3.1 k1; rw [e] at this; simp at this
    · rw [if_neg k1, if_neg k1]
      by_cases k2 : x.kind = 2
      · rw [if_neg (by omega), if_neg (by omega), if_neg (by omega), if_neg (by omega), if_pos k2, k2]
        have hL := canL_same 2 x.subs [] true ih
        have eks : ksOf 2 = [2, 3] := rfl
        rw [eks] at hL
        cases ht : textL [2, 3] x.subs with
        | none =>
          rw [ht] at hL
          simp only [] at hL
          by_cases h1 : x.subs.length = 1
          · rw [if_pos ⟨rfl, h1⟩]; exact ⟨rfl, fun h => by cases h⟩
          · rw [if_neg (fun h => h1 h.2), hL]; exact ⟨rfl, fun h => by cases h⟩
        | some ws =>
          have hw := (textL_some ht).1
          have hn : ws.length = x.subs.length := by rw [hw, List.length_map]
          by_cases h1 : x.subs.length = 1
          · rw [if_pos ⟨rfl, h1⟩]
            have : ((some ws).getD []).length = 1 := by rw [← h1, ← hn]; rfl
            rw [this]; exact ⟨rfl, fun h => by cases h⟩
          · rw [if_neg (fun h => h1 h.2), hL, ht, joinB_nil]
            have : decide (((some ws).getD []).length ≠ 1) = true := decide_eq_true (by show ws.length ≠ 1; omega)
            rw [this]
            refine ⟨rfl, fun _ => ?_⟩
            cases ws with
            | nil => simp
            | cons w ws => simp
      · by_cases k3 : x.kind = 3
        · rw [if_neg (by omega), if_neg (by omega), if_neg (by omega), if_neg (by omega), if_neg (fun h => k2 h.1), if_neg k2, if_pos k3, k3]
          have hL := canL_same 3 x.subs [] true ih
          have eks : ksOf 3 = [3] := rfl
          rw [eks] at hL
          cases ht : textL [3] x.subs with
          | none => rw [hL, ht]; exact ⟨rfl, fun h => by cases h⟩
          | some ws =>
            rw [hL, ht]
            refine ⟨rfl, fun _ => ?_⟩
            cases ws with
            | nil => rfl
            | cons w ws =>
              show _ = joinB (w :: ws) [124]
              rw [joinB_bar]; simp
        · by_cases k4 : x.kind = 4
          · rw [if_neg (by omega), if_neg (by omega), if_neg (by omega), if_pos k4, if_neg k2, if_neg k3, if_pos k4]
            match hsub : x.subs, f5 k4 with
            | [y], _ =>
              obtain ⟨h1, h2⟩ := ih y (by rw [hsub]; exact List.mem_cons_self)
              rw [canH, textL_cons, textL]
              cases ht : (textP y).2 with
              | false => rw [if_neg (by decide)]; exact ⟨by rw [h1, ht]; rfl, fun h => by cases h⟩
              | true =>
                rw [if_pos rfl]
                refine ⟨by rw [h1, ht]; rfl, fun _ => ?_⟩
                show wrapP [2, 3, 4] y (canP y).1 ++ _ = joinB [wrapP [2, 3, 4] y (textP y).1] [] ++ _
                rw [joinB_nil, h2 ht]; simp
          · by_cases k5 : x.kind = 5
            · rw [if_pos k5, if_neg k2, if_neg k3, if_neg k4, if_pos k5]; exact .rfl
            · by_cases k6 : x.kind = 6
              · rw [if_neg k5, if_pos k6, if_neg k2, if_neg k3, if_neg k4, if_neg k5, if_pos k6]; exact .rfl
              · have k7 : x.kind = 7 := by omega
                rw [if_neg k5, if_neg k6, if_pos k7, if_neg k2, if_neg k3, if_neg k4, if_neg k5, if_neg k6]; exact .rfl
theorem print_same (x : Rx) : printR x = printP x := by
  unfold printR printP
  by_cases h : rightS x = 0
  · rw [if_neg (fun hn : rightS x ≠ 0 => hn h), if_neg (fun hn : rightS x ≠ 0 => hn h)]
    obtain ⟨h1, h2⟩ := can_same _ x (Nat.le_refl _) (rightS_node h)
    rw [h1]
    cases ht : (textP x).2 with
    | false => rw [if_pos (.inl rfl), if_pos (.inl rfl)]
    | true => rw [h2 ht]
  · rw [if_pos h, if_pos h]
theorem run_RegexPrints (x : Rx) : Runs (cfg [k_alive, k_small, k_Print, k_rPrint]) (.enter 5 [argX x] []) [.bool true] := by
  refine Runs.by (LPrints_e · _ _ _ _ _) ?_
  simp only [dec5, isXa5, cond_true, bl_mk, size_mk]
  cases h1 : smallX x with
  | false => exact .ret
  | true =>
    obtain ⟨a1, a2, a3⟩ := small_ok h1
    simp only [Bool.not_true, cond_false, is5 a1 (ok_lev a1), cond_true, print_same, beq_self_eq_true]
    exact .ret
end Go.Ab
