/- What is written is read as what it was: whole expressions; the laws Back and Again. -/
import Derived.Test.YtodhphapbemjmaaDoorPartRx3
namespace Go.Ab
open Go.Proofs

abbrev T (x : Rx) : List UInt8 := (textP x).1
def stopT (r : List UInt8) : Prop := r = [] ∨ r.head? = some 124 ∨ r.head? = some 41
def safeT (r : List UInt8) : Prop := ∀ c, r.head? = some c → c ≠ 42 ∧ c ≠ 43 ∧ c ≠ 63 ∧ c ≠ 123
def lastT (r : List UInt8) : Prop := r = [] ∨ r.head? = some 41
theorem last_stop {r : List UInt8} (h : lastT r) : stopT r := h.elim .inl fun h => .inr (.inr h)
theorem stop_safe {r : List UInt8} (h : stopT r) : safeT r := fun c hc => by
  rcases h with rfl | h | h
  · cases hc
  · rw [h] at hc; cases hc; decide
  · rw [h] at hc; cases hc; decide
theorem start_safe {t : List UInt8} (h : startT t) (r : List UInt8) : safeT (t ++ r) := fun c hc => by
  obtain ⟨d, u, rfl, h1, h2, h3, h4, _⟩ := h
  simp only [List.cons_append, List.head?_cons, Option.some.injEq] at hc
  subst hc
  exact ⟨h1, h2, h3, h4⟩
theorem start_app {t : List UInt8} (h : startT t) (r : List UInt8) : startT (t ++ r) := by
  obtain ⟨c, u, rfl, h⟩ := h
  exact ⟨c, u ++ r, rfl, h⟩
theorem rep_safe (x : Rx) {r : List UInt8} (h : safeT r) : pRep x r = some (x, r) := by
  cases r with
  | nil => rfl
  | cons c r =>
    obtain ⟨h1, h2, h3, h4⟩ := h c rfl
    rw [pRep, if_neg h1, if_neg h2, if_neg h3, if_neg h4]
theorem item_of {p : List UInt8 → Option (Rx × List UInt8)} {t r : List UInt8} {x : Rx} (h : pAtom p (t ++ r) = some (x, r)) (hr : safeT r) : pItem p (t ++ r) = some (x, r) := by
  unfold pItem
  rw [h]
  exact rep_safe x hr
theorem seq_one {p : List UInt8 → Option (Rx × List UInt8)} {t r : List UInt8} {x : Rx} (h : pItem p (t ++ r) = some (x, r)) (hs : startT t) (hr : stopT r) : pSeq p (t ++ r) = some (x, r) := by
  obtain ⟨c, u, rfl, _, _, _, _, h5, h6⟩ := hs
  unfold pSeq
  have hn : ¬ ((c :: u ++ r) = [] ∨ (c :: u ++ r).head? = some 124 ∨ (c :: u ++ r).head? = some 41) := by
    simp [h5, h6]
  rw [pSeqL, if_neg hn, h]
  simp only []
  have : (c :: u ++ r).length = (u ++ r).length + 1 := rfl
  rw [this, pSeqL, if_pos (show r = [] ∨ r.head? = some 124 ∨ r.head? = some 41 from hr)]
  rfl
theorem alt_one {n : Nat} {t r : List UInt8} {x : Rx} (h : pSeq (pAlt n) (t ++ r) = some (x, r)) (hr : lastT r) : pAlt (n + 1) (t ++ r) = some (x, r) := by
  rw [pAlt, h]
  simp only [Option.bind_some]
  have hn : ¬ (r.head? = some 124) := by
    rcases hr with rfl | hr
    · simp
    · rw [hr]; decide
  rw [pAltL, if_neg hn]
  rfl
theorem paren_atom {n : Nat} {t r : List UInt8} {x : Rx} (h : pAlt n (t ++ 41 :: r) = some (x, 41 :: r)) : pAtom (pAlt n) ([40] ++ t ++ [41] ++ r) = some (x, r) := by
  have e : [40] ++ t ++ [41] ++ r = 40 :: (t ++ 41 :: r) := by simp
  rw [e, pAtom_cons, if_pos rfl, h]
  simp
/-- How one expression is read. -/
structure RT (x : Rx) : Prop where
  atom : ¬ (x.kind = 2 ∨ x.kind = 3 ∨ x.kind = 4) → ∀ n r, pAtom (pAlt n) (T x ++ r) = some (x, r)
  item : ¬ (x.kind = 2 ∨ x.kind = 3) → startT (T x) ∧ ∀ n r, (T x).length ≤ n → safeT r → pItem (pAlt n) (T x ++ r) = some (x, r)
  seq : x.kind ≠ 3 → ∀ n r, (T x).length ≤ n → stopT r → pSeq (pAlt n) (T x ++ r) = some (x, r)
  alt : ∀ n r, (T x).length ≤ n → lastT r → pAlt (n + 1) (T x ++ r) = some (x, r)
theorem RT.of_item {x : Rx} (hk : ¬ (x.kind = 2 ∨ x.kind = 3)) (ha : ¬ (x.kind = 2 ∨ x.kind = 3 ∨ x.kind = 4) → ∀ n r, pAtom (pAlt n) (T x ++ r) = some (x, r)) (hs : startT (T x))
    (hi : ∀ n r, (T x).length ≤ n → safeT r → pItem (pAlt n) (T x ++ r) = some (x, r)) : RT x :=
  ⟨ha, fun _ => ⟨hs, hi⟩, fun _ n r hn hr => seq_one (hi n r hn (stop_safe hr)) hs hr, fun n r hn hr => alt_one (seq_one (hi n r hn (stop_safe (last_stop hr))) hs (last_stop hr)) hr⟩
theorem RT.of_atom {x : Rx} (hk : ¬ (x.kind = 2 ∨ x.kind = 3 ∨ x.kind = 4)) (ha : ∀ n r, pAtom (pAlt n) (T x ++ r) = some (x, r)) (hs : startT (T x)) : RT x :=
  RT.of_item (fun h => hk (h.elim .inl fun h => .inr (.inl h))) (fun _ => ha) hs fun n r _ hr => item_of (ha n r) hr
/-- A part in parentheses where it is one of some kinds. -/
theorem wrap_paren {x : Rx} (h : RT x) {n : Nat} (hn : (T x).length + 2 ≤ n) (r : List UInt8) : pAtom (pAlt n) ([40] ++ T x ++ [41] ++ r) = some (x, r) := by
  obtain ⟨m, rfl⟩ : ∃ m, n = m + 1 := ⟨n - 1, by omega⟩
  exact paren_atom (h.alt m (41 :: r) (by omega) (.inr rfl))
theorem wrap_yes {ks : List Int} {x : Rx} (h : x.kind ∈ ks) : wrapP ks x (T x) = [40] ++ T x ++ [41] := by unfold wrapP; rw [if_pos h]
theorem wrap_no {ks : List Int} {x : Rx} (h : ¬ x.kind ∈ ks) : wrapP ks x (T x) = T x := by unfold wrapP; rw [if_neg h]
/-- Below a repetition. -/
theorem wrap_atom {x : Rx} (h : RT x) (n : Nat) (hn : (wrapP [2, 3, 4] x (T x)).length ≤ n) (r : List UInt8) : pAtom (pAlt n) (wrapP [2, 3, 4] x (T x) ++ r) = some (x, r) ∧ startT (wrapP [2, 3, 4] x (T x)) := by
  by_cases hk : x.kind ∈ ([2, 3, 4] : List Int)
  · rw [wrap_yes hk] at hn ⊢
    exact ⟨wrap_paren h (by simp at hn; omega) r, start_40 _⟩
  · rw [wrap_no hk]
    have hk' : ¬ (x.kind = 2 ∨ x.kind = 3 ∨ x.kind = 4) := by simpa using hk
    exact ⟨h.atom hk' n r, (h.item fun h => hk' (h.elim .inl fun h => .inr (.inl h))).1⟩
/-- In a sequence. -/
theorem wrap_item {x : Rx} (h : RT x) : startT (wrapP [2, 3] x (T x)) ∧ ∀ n, (wrapP [2, 3] x (T x)).length ≤ n → ∀ r, safeT r → pItem (pAlt n) (wrapP [2, 3] x (T x) ++ r) = some (x, r) := by
  by_cases hk : x.kind ∈ ([2, 3] : List Int)
  · rw [wrap_yes hk]
    exact ⟨start_40 _, fun n hn r hr => item_of (wrap_paren h (by simp at hn; omega) r) hr⟩
  · rw [wrap_no hk]
    have hk' : ¬ (x.kind = 2 ∨ x.kind = 3) := by simpa using hk
    exact ⟨(h.item hk').1, fun n hn r hr => (h.item hk').2 n r hn hr⟩
/-- Among alternatives. -/
theorem wrap_seq {x : Rx} (h : RT x) (n : Nat) (hn : (wrapP [3] x (T x)).length ≤ n) (r : List UInt8) (hr : stopT r) : pSeq (pAlt n) (wrapP [3] x (T x) ++ r) = some (x, r) := by
  by_cases hk : x.kind ∈ ([3] : List Int)
  · rw [wrap_yes hk] at hn ⊢
    exact seq_one (item_of (wrap_paren h (by simp at hn; omega) r) (stop_safe hr)) (start_40 _) hr
  · rw [wrap_no hk] at hn ⊢
    exact h.seq (by simpa using hk) n r hn hr
/-! ### lists of parts -/
theorem textL_some {ks : List Int} : ∀ {l : List Rx} {ws : List (List UInt8)}, textL ks l = some ws → ws = l.map (fun x => wrapP ks x (T x)) ∧ ∀ x ∈ l, (textP x).2 = true
  | [], ws, h => by rw [textL] at h; cases h; exact ⟨rfl, by simp⟩
  | x :: l, ws, h => by
    rw [textL_cons] at h
    split at h
    case isFalse => cases h
    rename_i hx
    rw [Option.map_eq_some_iff] at h
    obtain ⟨v, h1, rfl⟩ := h
    obtain ⟨i1, i2⟩ := textL_some h1
    refine ⟨by rw [i1]; rfl, fun y hy => ?_⟩
    rcases List.mem_cons.1 hy with rfl | hy
    · exact hx
    · exact i2 y hy
theorem joinB_nil : ∀ l : List (List UInt8), joinB l [] = l.flatten
  | [] => rfl
  | [a] => by simp [joinB, List.intercalate]
  | a :: b :: l => by
    have ih := joinB_nil (b :: l)
    have e : joinB (a :: b :: l) [] = a ++ [] ++ joinB (b :: l) [] := by simp [joinB, List.intercalate, List.intersperse]
    rw [e, ih]; simp
theorem joinB_bar : ∀ (a : List UInt8) (l : List (List UInt8)), joinB (a :: l) [124] = a ++ (l.map fun w => 124 :: w).flatten
  | a, [] => by simp [joinB, List.intercalate]
  | a, b :: l => by
    have ih := joinB_bar b l
    have e : joinB (a :: b :: l) [124] = a ++ [124] ++ joinB (b :: l) [124] := by simp [joinB, List.intercalate, List.intersperse]
    rw [e, ih]; simp
theorem seqL_rt (n : Nat) (r : List UInt8) (hr : stopT r) : ∀ (l acc : List Rx) (k : Nat), (∀ x ∈ l, RT x) → ((l.map fun x => wrapP [2, 3] x (T x)).flatten).length ≤ n → ((l.map fun x => wrapP [2, 3] x (T x)).flatten ++ r).length + 1 ≤ k →
    pSeqL (pAlt n) k acc ((l.map fun x => wrapP [2, 3] x (T x)).flatten ++ r) = some (acc ++ l, r)
  | [], acc, k, _, _, hk => by
    cases k with
    | zero => omega
    | succ k =>
      show pSeqL (pAlt n) (k + 1) acc r = _
      rw [pSeqL, if_pos (show r = [] ∨ r.head? = some 124 ∨ r.head? = some 41 from hr), List.append_nil]
  | x :: l, acc, k, hx, hn, hk => by
    cases k with
    | zero => omega
    | succ k =>
      obtain ⟨hs, hi⟩ := wrap_item (hx x List.mem_cons_self)
      have hl : ∀ y ∈ l, RT y := fun y hy => hx y (List.mem_cons_of_mem _ hy)
      simp only [List.map_cons, List.flatten_cons, List.append_assoc, List.length_append] at hn hk ⊢
      have hmore : safeT ((l.map fun x => wrapP [2, 3] x (T x)).flatten ++ r) := by
        cases l with
        | nil => exact stop_safe hr
        | cons y l =>
          rw [List.map_cons, List.flatten_cons, List.append_assoc]
          exact start_safe (wrap_item (hl y List.mem_cons_self)).1 _
      have hit := hi n (by omega) _ hmore
      obtain ⟨c, u, e, _, _, _, _, h5, h6⟩ := hs
      have hg : ¬ (wrapP [2, 3] x (T x) ++ ((l.map fun x => wrapP [2, 3] x (T x)).flatten ++ r) = [] ∨ (wrapP [2, 3] x (T x) ++ ((l.map fun x => wrapP [2, 3] x (T x)).flatten ++ r)).head? = some 124 ∨ (wrapP [2, 3] x (T x) ++ ((l.map fun x => wrapP [2, 3] x (T x)).flatten ++ r)).head? = some 41) := by
        rw [e]; simp [h5, h6]
      have hlen : 1 ≤ (wrapP [2, 3] x (T x)).length := by rw [e]; simp
      rw [pSeqL, if_neg hg, hit]
      simp only []
      rw [seqL_rt n r hr l (acc ++ [x]) k hl (by omega) (by simp only [List.length_append]; omega)]
      simp
theorem altL_rt (n : Nat) (r : List UInt8) (hr : lastT r) : ∀ (l acc : List Rx) (k : Nat), (∀ x ∈ l, RT x) → (((l.map fun x => wrapP [3] x (T x)).map fun w => 124 :: w).flatten).length ≤ n → (((l.map fun x => wrapP [3] x (T x)).map fun w => 124 :: w).flatten ++ r).length + 1 ≤ k →
    pAltL (pAlt n) k acc (((l.map fun x => wrapP [3] x (T x)).map fun w => 124 :: w).flatten ++ r) = some (acc ++ l, r)
  | [], acc, k, _, _, hk => by
    cases k with
    | zero => omega
    | succ k =>
      have hn : ¬ (r.head? = some 124) := by
        rcases hr with rfl | hr
        · simp
        · rw [hr]; decide
      show pAltL (pAlt n) (k + 1) acc r = _
      rw [pAltL, if_neg hn, List.append_nil]
  | x :: l, acc, k, hx, hn, hk => by
    cases k with
    | zero => omega
    | succ k =>
      have hl : ∀ y ∈ l, RT y := fun y hy => hx y (List.mem_cons_of_mem _ hy)
      simp only [List.map_cons, List.flatten_cons, List.append_assoc, List.length_append, List.length_cons, List.cons_append] at hn hk ⊢
      have hmore : stopT (((l.map fun x => wrapP [3] x (T x)).map fun w => 124 :: w).flatten ++ r) := by
        cases l with
        | nil => exact last_stop hr
        | cons y l => exact .inr (.inl rfl)
      have hit := wrap_seq (hx x List.mem_cons_self) n (by omega) _ hmore
      rw [pAltL, if_pos (List.head?_cons ..), List.tail_cons, hit]
      simp only []
      rw [altL_rt n r hr l (acc ++ [x]) k hl (by omega) (by simp only [List.length_append]; omega)]
      simp
/-! ### all expressions -/
theorem Rx_eta (x : Rx) : x = .mk x.kind x.set x.mn x.mx x.subs := by cases x; rfl
theorem rt_all : ∀ (m : Nat) (x : Rx), x.lev ≤ m → nodeS x = 0 → (textP x).2 = true → RT x
  | 0, x, hl, _, _ => (no_lev hl).elim
  | m + 1, x, hl, hr, ht => by
    obtain ⟨hf, hc, hs⟩ := right_of hr
    have ih : ∀ y ∈ x.subs, (textP y).2 = true → RT y := fun y hy hy2 => rt_all m y (by have := lev_sub hy; omega) (hs y hy) hy2
    obtain ⟨f1, f2, f3, f4, f5, f6, f7, f8⟩ := hf
    have hTe := textP_eq x
    by_cases k1 : x.kind = 1
    · rw [if_pos k1] at hTe
      have hne : x.set ≠ [] := by
        have := f3.1 k1
        intro e; rw [e] at this; simp at this
      have hx : x = setX x.set := by
        conv => lhs; rw [Rx_eta x]
        have h1 := f8 (by omega)
        have h2 : x.subs = [] := List.eq_nil_of_length_eq_zero (f7 (by omega))
        rw [k1, h1.1, h1.2, h2]; rfl
      have ht' : (setP x.set).2 = true := by rw [← hTe]; exact ht
      have hT : T x = (setP x.set).1 := by unfold T; rw [hTe]
      refine RT.of_atom (by omega) (fun n r => ?_) ?_
      · rw [hT]
        rw [(set_rt (pAlt n) hne ht' r).1, ← hx]
      · rw [hT]; exact (set_rt (pAlt 0) hne ht' []).2
    · rw [if_neg k1] at hTe
      have hset : x.set = [] := List.eq_nil_of_length_eq_zero (by omega)
      by_cases k2 : x.kind = 2
      · rw [if_pos k2] at hTe
        have ht2 : (textL [2, 3] x.subs).isSome = true ∧ ((textL [2, 3] x.subs).getD []).length ≠ 1 := by
          rw [hTe] at ht
          simpa using ht
        cases hw : textL [2, 3] x.subs with
        | none => rw [hw] at ht2; simp at ht2
        | some ws =>
          rw [hw] at hTe ht2
          obtain ⟨w1, w2⟩ := textL_some hw
          have hT : T x = (x.subs.map fun y => wrapP [2, 3] y (T y)).flatten := by
            unfold T; rw [hTe]
            show joinB ws [] = _
            rw [joinB_nil, w1]
          have hlen : x.subs.length ≠ 1 := by
            have := ht2.2
            rw [w1] at this
            simpa using this
          have hx : oneX 2 x.subs = x := by
            unfold oneX
            rw [if_neg hlen]
            conv => rhs; rw [Rx_eta x]
            have h1 := f8 (by omega)
            rw [k2, h1.1, h1.2, hset]
          have hseq : ∀ n r, (T x).length ≤ n → stopT r → pSeq (pAlt n) (T x ++ r) = some (x, r) := fun n r hn hr => by
            rw [hT] at hn ⊢
            unfold pSeq
            rw [seqL_rt n r hr x.subs [] _ (fun y hy => ih y hy (w2 y hy)) hn (Nat.le_refl _)]
            show some (oneX 2 ([] ++ x.subs), r) = _
            rw [List.nil_append, hx]
          exact ⟨fun h => absurd (.inl k2) h, fun h => absurd (.inl k2) h, fun _ => hseq, fun n r hn hr => alt_one (hseq n r hn (last_stop hr)) hr⟩
      · rw [if_neg k2] at hTe
        by_cases k3 : x.kind = 3
        · rw [if_pos k3] at hTe
          have hl2 := f6 k3
          cases hw : textL [3] x.subs with
          | none => rw [hTe, hw] at ht; simp at ht
          | some ws =>
            rw [hw] at hTe
            obtain ⟨w1, w2⟩ := textL_some hw
            have hx : oneX 3 x.subs = x := by
              unfold oneX
              rw [if_neg (by omega)]
              conv => rhs; rw [Rx_eta x]
              have h1 := f8 (by omega)
              rw [k3, h1.1, h1.2, hset]
            cases hsub : x.subs with
            | nil => rw [hsub] at hl2; simp at hl2
            | cons y l =>
              have hT : T x = wrapP [3] y (T y) ++ ((l.map fun z => wrapP [3] z (T z)).map fun w => 124 :: w).flatten := by
                unfold T; rw [hTe]
                show joinB ws [124] = _
                rw [w1, hsub, List.map_cons, joinB_bar]
              have hyr : ∀ z ∈ y :: l, RT z := fun z hz => ih z (by rw [hsub]; exact hz) (w2 z (by rw [hsub]; exact hz))
              refine ⟨fun h => absurd (.inr (.inl k3)) h, fun h => absurd (.inr k3) h, fun h => absurd k3 h, fun n r hn hr => ?_⟩
              rw [hT] at hn ⊢
              rw [List.length_append] at hn
              have hl3 : l ≠ [] := by
                intro e; rw [hsub, e] at hl2; simp at hl2
              have hmore : stopT (((l.map fun z => wrapP [3] z (T z)).map fun w => 124 :: w).flatten ++ r) := by
                cases l with
                | nil => exact absurd rfl hl3
                | cons z l => exact .inr (.inl rfl)
              have h1 := wrap_seq (hyr y List.mem_cons_self) n (by omega) _ hmore
              rw [pAlt, List.append_assoc, h1]
              simp only [Option.bind_some]
              rw [altL_rt n r hr l [y] _ (fun z hz => hyr z (List.mem_cons_of_mem _ hz)) (by omega) (by simp only [List.length_append]; omega)]
              show some (oneX 3 (y :: l), r) = _
              rw [← hsub, hx]
        · rw [if_neg k3] at hTe
          by_cases k4 : x.kind = 4
          · rw [if_pos k4] at hTe
            have hl1 := f5 k4
            cases hw : textL [2, 3, 4] x.subs with
            | none => rw [hTe, hw] at ht; simp at ht
            | some ws =>
              rw [hw] at hTe
              obtain ⟨w1, w2⟩ := textL_some hw
              match hsub : x.subs, hl1 with
              | [y], _ =>
                have hyr : RT y := ih y (by rw [hsub]; exact List.mem_cons_self) (w2 y (by rw [hsub]; exact List.mem_cons_self))
                have hT : T x = wrapP [2, 3, 4] y (T y) ++ sufP x.mn x.mx := by
                  unfold T; rw [hTe]
                  show joinB ws [] ++ _ = _
                  rw [joinB_nil, w1, hsub]; simp
                have hx : repX x.mn x.mx y = x := by
                  conv => rhs; rw [Rx_eta x]
                  rw [k4, hset, hsub]; rfl
                have hb : 0 ≤ x.mn ∧ x.mn ≤ 8 ∧ (x.mx = -1 ∨ (1 ≤ x.mx ∧ x.mx ≤ 8)) := by
                  unfold cntP at hc
                  omega
                have hst := (wrap_atom hyr _ (Nat.le_refl _) []).2
                refine RT.of_item (by omega) (fun h => absurd (.inr (.inr k4)) h) ?_ fun n r hn hr => ?_
                · rw [hT]; exact start_app hst _
                · rw [hT, List.length_append] at hn
                  rw [hT]
                  unfold pItem
                  rw [List.append_assoc, (wrap_atom hyr n (by omega) _).1]
                  simp only [Option.bind_some]
                  rw [sufP_rt y hb r, hx]
          · rw [if_neg k4] at hTe
            have hx0 : x = leafX x.kind := by
              conv => lhs; rw [Rx_eta x]
              have h1 := f8 k4
              have h2 : x.subs = [] := List.eq_nil_of_length_eq_zero (f7 (by omega))
              rw [h1.1, h1.2, h2, hset]; rfl
            by_cases k5 : x.kind = 5
            · rw [if_pos k5] at hTe
              have hT : T x = [94] := by unfold T; rw [hTe]
              refine RT.of_atom (by omega) (fun n r => ?_) ?_
              · rw [hT]
                show pAtom _ (94 :: r) = _
                rw [pAtom_cons, if_neg (by decide), if_pos rfl]
                conv => rhs; rw [hx0, k5]
              · rw [hT]; exact ⟨94, [], rfl, by decide, by decide, by decide, by decide, by decide, by decide⟩
            · rw [if_neg k5] at hTe
              by_cases k6 : x.kind = 6
              · rw [if_pos k6] at hTe
                have hT : T x = [36] := by unfold T; rw [hTe]
                refine RT.of_atom (by omega) (fun n r => ?_) ?_
                · rw [hT]
                  show pAtom _ (36 :: r) = _
                  rw [pAtom_cons, if_neg (by decide), if_neg (by decide), if_pos rfl]
                  conv => rhs; rw [hx0, k6]
                · rw [hT]; exact ⟨36, [], rfl, by decide, by decide, by decide, by decide, by decide, by decide⟩
              · rw [if_neg k6] at hTe
                have k7 : x.kind = 7 := by omega
                have hT : T x = [92, 98] := by unfold T; rw [hTe]
                refine RT.of_atom (by omega) (fun n r => ?_) ?_
                · rw [hT]
                  show pAtom _ (92 :: 98 :: r) = _
                  rw [pAtom_cons, if_neg (by decide), if_neg (by decide), if_neg (by decide), if_neg (by decide), if_neg (by decide), if_pos rfl]
                  show (if (98 : UInt8) = 98 then some (leafX 7, r) else (pEsc 98).map fun l => (setX l, r)) = _
                  rw [if_pos rfl]
                  conv => rhs; rw [hx0, k7]
                · rw [hT]; exact start_92 _
/-- What is printed is parsed as what it was. -/
theorem back (x : Rx) (h : (printP x).2 = 0) : parseP (printP x).1 = (x, 0) ∧ rightS x = 0 ∧ (printP x).1.length ≤ 300 := by
  unfold printP at h ⊢
  by_cases hr : rightS x = 0
  · rw [if_neg (by simp [hr])] at h ⊢
    by_cases ht : (textP x).2 = false ∨ 300 < (textP x).1.length
    · rw [if_pos ht] at h; simp at h
    · rw [if_neg ht]
      have hlen : (textP x).1.length ≤ 300 := by
        have : ¬ 300 < (textP x).1.length := fun h => ht (.inr h)
        omega
      have hok : (textP x).2 = true := by
        cases hb : (textP x).2 with
        | true => rfl
        | false => exact absurd (.inl hb) ht
      have hn := rightS_node hr
      have hrt := (rt_all _ x (Nat.le_refl _) hn hok).alt 300 [] hlen (.inl rfl)
      rw [List.append_nil] at hrt
      have he := (alt_rel 301 (textP x).1 (by omega)).2 x [] hrt
      refine ⟨?_, hr, hlen⟩
      show parseP (textP x).1 = (x, 0)
      unfold parseP
      rw [if_neg (by omega), he, if_neg (by simp), if_neg (by simp [hr])]
  · rw [if_pos hr] at h
    exact absurd h hr
theorem print_err (x : Rx) (h : (printP x).2 ≠ 0) : (printP x).1 = [] := by
  unfold printP at h ⊢
  split
  · rfl
  · rename_i hr
    rw [if_neg hr] at h
    split
    · rfl
    · rename_i ht
      rw [if_neg ht] at h
      exact absurd rfl h
theorem print_right {x : Rx} (hr : rightS x = 0) (h : (printP x).2 ≠ 0) : (printP x).2 = 3 := by
  unfold printP at h ⊢
  rw [if_neg (by simp [hr])] at h ⊢
  split
  · rfl
  · rename_i ht
    rw [if_neg ht] at h
    exact absurd rfl h
theorem parse_err (l : List UInt8) (h : (parseP l).2 ≠ 0) : (parseP l).1 = zeroX := by
  unfold parseP at h ⊢
  split
  · rfl
  · rename_i h1
    rw [if_neg h1] at h
    split
    · rfl
    · rename_i h2
      rw [if_neg h2] at h
      split
      · rfl
      · rename_i h3
        rw [if_neg h3] at h
        exact absurd rfl h
theorem parse_right (l : List UInt8) (h : (parseP l).2 = 0) : rightS (parseP l).1 = 0 := by
  unfold parseP at h ⊢
  split
  · rename_i h1; rw [if_pos h1] at h; simp at h
  · rename_i h1
    rw [if_neg h1] at h
    split
    · rename_i h2; rw [if_pos h2] at h; simp at h
    · rename_i h2
      rw [if_neg h2] at h
      split
      · rename_i h3; rw [if_pos h3] at h; exact absurd h h3
      · rename_i h3
        exact Decidable.of_not_not h3
end Go.Ab
namespace Go.Ab
open Go.Proofs

theorem litZ : ([L.int .i64 0, .lst 48 [], .int .i64 0, .int .i64 0, .lst 25 []] : List L) = encX zeroX := by kernel_rfl
theorem run_RegexBack (x : Rx) : Runs (cfg [k_alive, k_small, k_Print, k_Parse, k_Right, k_rSame 1000000000000]) (.enter 7 [argX x] []) [.bool true] := by
  refine Runs.by (LBack_e · _ _ _ _ _) ?_
  simp only [dec5, isXa5, cond_true, bl_mk, size_mk]
  cases h1 : smallX x with
  | false => exact .ret
  | true =>
    obtain ⟨a1, a2, a3⟩ := small_ok h1
    simp only [Bool.not_true, cond_false, is5 a1 (ok_lev a1), cond_true]
    by_cases h : (printP x).2 = 0
    · obtain ⟨b1, b2, b3⟩ := back x h
      rw [ev_ne_f h, b1, ev_blt (show (printP x).1.length ≤ 9223372036854775807 by omega)]
      simp only [cond_false, cond_true, beq_self_eq_true, b2, dec5, is5 a1 (ok_lev a1), Bool.and_self, sameX_refl]
      exact .ret
    · rw [ev_ne_t h, print_err x h]
      exact .ret
theorem run_RegexAgain (s : ByteArray) : Runs (cfg [k_alive, k_Parse, k_rSame 1000000000000, k_Right, k_Print]) (.enter 8 [.lf (.str s)] []) [.bool true] := by
  obtain ⟨l, rfl⟩ := str_cases s
  refine Runs.by (LAgain_e · _) ?_
  simp only [bl_mk, size_mk]
  by_cases hl : 600 < l.length
  · rw [ev_lt_t (by omega)]; exact .ret
  · obtain ⟨a1, a2⟩ := parseP_ok l
    have al := ok_lev a1
    rw [ev_lt_f (by omega), ev_blt (show l.length ≤ 9223372036854775807 by omega)]
    simp only [cond_false, cond_true]
    by_cases h : (parseP l).2 = 0
    · have hr := parse_right l h
      rw [ev_ne_f h]
      refine .go ?_
      refine Runs.by (LAgain_p8 · _ _ _ _ _) ?_
      rw [dec5, is5 a1 al, hr]
      refine .go ?_
      refine Runs.by (LAgain_p10 · _ _ _ _ _) ?_
      rw [dec5, is5 a1 al]
      by_cases hp : (printP (parseP l).1).2 = 0
      · obtain ⟨b1, b2, b3⟩ := back _ hp
        rw [ev_ne_f hp]
        refine .go ?_
        refine Runs.by (LAgain_p13 · _ _ _ _ _ _) ?_
        simp only [bl_mk, size_mk]
        rw [ev_blt (show (printP (parseP l).1).1.length ≤ 9223372036854775807 by omega), b1]
        refine .go ?_
        refine Runs.by (LAgain_p14 · _ _ _ _ _ _ _ _ _ _ _ _) ?_
        simp only [dec5, is5 a1 al, bl_mk, size_mk, hp, beq_self_eq_true, sameX_refl, Bool.and_self, cond_true]
        rw [ev_le_t (by omega)]
        exact .ret
      · rw [ev_ne_t hp, print_right hr hp]
        exact .ret
    · have hz := parse_err l h
      rw [ev_ne_t h]
      simp only [cond_true, hz, dec5, is5 zeroX_ok (ok_lev zeroX_ok), litZ, isX_enc zeroX_ok (ok_lev zeroX_ok), decX_enc, sameX_refl, Bool.and_self]
      exact .ret
end Go.Ab
