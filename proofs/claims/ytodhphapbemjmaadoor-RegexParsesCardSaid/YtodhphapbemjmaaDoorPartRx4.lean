/- What is written is read as what it was: whole expressions; the laws Back and Again. -/
import Derived.Test.YtodhphapbemjmaaDoorPartRx3
namespace Go.Ab
open Go.Proofs

abbrev T (x : Rx) : List UInt8 := (textP x).1
def stopT (r : List UInt8) : Prop := r = [] ∨ r.head? = some 124 ∨ r.head? = some 41
def safeT (r : List UInt8) : Prop := ∀ c, r.head? = some c → c ≠ 42 ∧ c ≠ 43 ∧ c ≠ 63 ∧ c ≠ 123
def lastT (r : List UInt8) : Prop := r = [] ∨ r.head? = some 41
theorem last_stop {r : List UInt8} (h : lastT r) : stopT r := h.elim .inl fun h => .inr (.inr h)
theorem stop_safe {r : List UInt8} (h : stopT r) : safeT r := fun c hc => by
  rcases h with rfl | h | h
  · cases hc
  · rw [h] at hc; cases hc; decide
  · rw [h] at hc; cases hc; decide
theorem start_safe {t : List UInt8} (h : startT t) (r : List UInt8) : safeT (t ++ r) := fun c hc => by
  obtain ⟨d, u, rfl, h1, h2, h3, h4, _⟩ := h
  simp only [List.cons_append, List.head?_cons, Option.some.injEq] at hc
  subst hc
  exact ⟨h1, h2, h3, h4⟩
theorem start_app {t : List UInt8} (h : startT t) (r : List UInt8) : startT (t ++ r) := by
  obtain ⟨c, u, rfl, h⟩ := h
  exact ⟨c, u ++ r, rfl, h⟩
theorem rep_safe (x : Rx) {r : List UInt8} (h : safeT r) : pRep x r = some (x, r) := by
  cases r with
  | nil => rfl
  | cons c r =>
    obtain ⟨h1, h2, h3, h4⟩ := h c rfl
    rw [pRep, if_neg h1, if_neg h2, if_neg h3, if_neg h4]
theorem item_of {p : List UInt8 → Option (Rx × List UInt8)} {t r : List UInt8} {x : Rx} (h : pAtom p (t ++ r) = some (x, r)) (hr : safeT r) : pItem p (t ++ r) = some (x, r) := by
  unfold pItem
  rw [h]
  exact rep_safe x hr
theorem seq_one {p : List UInt8 → Option (Rx × List UInt8)} {t r : List UInt8} {x : Rx} (h : pItem p (t ++ r) = some (x, r)) (hs : startT t) (hr : stopT r) : pSeq p (t ++ r) = some (x, r) := by
  obtain ⟨c, u, rfl, _, _, _, _, h5, h6⟩ := hs
  unfold pSeq
  have hn : ¬ ((c :: u ++ r) = [] ∨ (c :: u ++ r).head? = some 124 ∨ (c :: u ++ r).head? = some 41) := by
    simp [h5, h6]
  rw [pSeqL, if_neg hn, h]
  simp only []
  have : (c :: u ++ r).length = (u ++ r).length + 1 := rfl
  rw [this, pSeqL, if_pos (show r = [] ∨ r.head? = some 124 ∨ r.head? = some 41 from hr)]
  rfl
theorem alt_one {n : Nat} {t r : List UInt8} {x : Rx} (h : pSeq (pAlt n) (t ++ r) = some (x, r)) (hr : lastT r) : pAlt (n + 1) (t ++ r) = some (x, r) := by
  rw [pAlt, h]
  simp only [Option.bind_some]
  have hn : ¬ (r.head? = some 124) := by
    rcases hr with rfl | hr
    · simp
    · rw [hr]; decide
  rw [pAltL, if_neg hn]
  rfl
theorem paren_atom {n : Nat} {t r : List UInt8} {x : Rx} (h : pAlt n (t ++ 41 :: r) = some (x, 41 :: r)) : pAtom (pAlt n) ([40] ++ t ++ [41] ++ r) = some (x, r) := by
  have e : [40] ++ t ++ [41] ++ r = 40 :: (t ++ 41 :: r) := by simp
  rw [e, pAtom_cons, if_pos rfl, h]
  simp
/-- How one expression is read. -/
structure RT (x : Rx) : Prop where
  atom : ¬ (x.kind = 2 ∨ x.kind = 3 ∨ x.kind = 4) → ∀ n r, pAtom (pAlt n) (T x ++ r) = some (x, r)
  item : ¬ (x.kind = 2 ∨ x.kind = 3) → startT (T x) ∧ ∀ n r, (T x).length ≤ n → safeT r → pItem (pAlt n) (T x ++ r) = some (x, r)
  seq : x.kind ≠ 3 → ∀ n r, (T x).length ≤ n → stopT r → pSeq (pAlt n) (T x ++ r) = some (x, r)
  alt : ∀ n r, (T x).length ≤ n → lastT r → pAlt (n + 1) (T x ++ r) = some (x, r)
theorem RT.of_item {x : Rx} (hk : ¬ (x.kind = 2 ∨ x.kind = 3)) (ha : ¬ (x.kind = 2 ∨ x.kind = 3 ∨ x.kind = 4) → ∀ n r, pAtom (pAlt n) (T x ++ r) = some (x, r)) (hs : startT (T x))
    (hi : ∀ n r, (T x).length ≤ n → safeT r → pItem (pAlt n) (T x ++ r) = some (x, r)) : RT x :=
  ⟨ha, fun _ => ⟨hs, hi⟩, fun _ n r hn hr => seq_one (hi n r hn (stop_safe hr)) hs hr, fun n r hn hr => alt_one (seq_one (hi n r hn (stop_safe (last_stop hr))) hs (last_stop hr)) hr⟩
theorem RT.of_atom {x : Rx} (hk : ¬ (x.kind = 2 ∨ x.kind = 3 ∨ x.kind = 4)) (ha : ∀ n r, pAtom (pAlt n) (T x ++ r) = some (x, r)) (hs : startT (T x)) : RT x :=
  RT.of_item (fun h => hk (h.elim .inl fun h => .inr (.inl h))) (fun _ => ha) hs fun n r _ hr => item_of (ha n r) hr
/-- A part in parentheses where it is one of some kinds. -/
theorem wrap_paren {x : Rx} (h : RT x) {n : Nat} (hn : (T x).length + 2 ≤ n) (r : List UInt8) : pAtom (pAlt n) ([40] ++ T x ++ [41] ++ r) = some (x, r) := by
  obtain ⟨m, rfl⟩ : ∃ m, n = m + 1 := ⟨n - 1, by omega⟩
  exact paren_atom (h.alt m (41 :: r) (by omega) (.inr rfl))
theorem wrap_yes {ks : List Int} {x : Rx} (h : x.kind ∈ ks) : wrapP ks x (T x) = [40] ++ T x ++ [41] := by unfold wrapP; rw [if_pos h]
theorem wrap_no {ks : List Int} {x : Rx} (h : ¬ x.kind ∈ ks) : wrapP ks x (T x) = T x := by unfold wrapP; rw [if_neg h]
/-- Below a repetition. -/
theorem wrap_atom {x : Rx} (h : RT x) (n : Nat) (hn : (wrapP [2, 3, 4] x (T x)).length ≤ n) (r : List UInt8) : pAtom (pAlt n) (wrapP [2, 3, 4] x (T x) ++ r) = some (x, r) ∧ startT (wrapP [2, 3, 4] x (T x)) := by
  by_cases hk : x.kind ∈ ([2, 3, 4] : List Int)
  · rw [wrap_yes hk] at hn ⊢
    exact ⟨wrap_paren h (by simp at hn; omega) r, start_40 _⟩
  · rw [wrap_no hk]
    have hk' : ¬ (x.kind = 2 ∨ x.kind = 3 ∨ x.kind = 4) := by simpa using hk
    exact ⟨h.atom hk' n r, (h.item fun h => hk' (h.elim .inl fun h => .inr (.inl h))).1⟩
/-- In a sequence. -/
theorem wrap_item {x : Rx} (h : RT x) : startT (wrapP [2, 3] x (T x)) ∧ ∀ n, (wrapP [2, 3] x (T x)).length ≤ n → ∀ r, safeT r → pItem (pAlt n) (wrapP [2, 3] x (T x) ++ r) = some (x, r) := by
  by_cases hk : x.kind ∈ ([2, 3] : List Int)
  · rw [wrap_yes hk]
    exact ⟨start_40 _, fun n hn r hr => item_of (wrap_paren h (by simp at hn; omega) r) hr⟩
  · rw [wrap_no hk]
    have hk' : ¬ (x.kind = 2 ∨ x.kind = 3) := by simpa using hk
    exact ⟨(h.item hk').1, fun n hn r hr => (h.item hk').2 n r hn hr⟩
/-- Among alternatives. -/
theorem wrap_seq {x : Rx} (h : RT x) (n : Nat) (hn : (wrapP [3] x (T x)).length ≤ n) (r : List UInt8) (hr : stopT r) : pSeq (pAlt n) (wrapP [3] x (T x) ++ r) = some (x, r) := by
  by_cases hk : x.kind ∈ ([3] : List Int)
  · rw [wrap_yes hk] at hn ⊢
    exact seq_one (item_of (wrap_paren h (by simp at hn; omega) r) (stop_safe hr)) (start_40 _) hr
  · rw [wrap_no hk] at hn ⊢
    exact h.seq (by simpa using hk) n r hn hr
/-! ### lists of parts -/
theorem textL_some {ks : List Int} : ∀ {l : List Rx} {ws : List (List UInt8)}, textL ks l = some ws → ws = l.map (fun x => wrapP ks x (T x)) ∧ ∀ x ∈ l, (textP x).2 = true
  | [], ws, h => by rw [textL] at h; cases h; exact ⟨rfl, by simp⟩
  | x :: l, ws, h => by
    rw [textL_cons] at h
    split at h
    case isFalse => cases h
    rename_i hx
    rw [Option.map_eq_some_iff] at h
    obtain ⟨v, h1, rfl⟩ := h
    obtain ⟨i1, i2⟩ := textL_some h1
    refine ⟨by rw [i1]; rfl, fun y hy => ?_⟩
    rcases List.mem_cons.1 hy with rfl | hy
    · exact hx
    · exact i2 y hy
theorem joinB_nil : ∀ l : List (List UInt8), joinB l [] = l.flatten
  | [] => rfl
  | [a] => by simp [joinB, List.intercalate]
  | a :: b :: l => by
    have ih := joinB_nil (b :: l)
    have e : joinB (a :: b :: l) [] = a ++ [] ++ joinB (b :: l) [] := by simp [joinB, List.intercalate, List.intersperse]
    rw [e, ih]; simp
theorem joinB_bar : ∀ (a : List UInt8) (l : List (List UInt8)), joinB (a :: l) [124] = a ++ (l.map fun w => 124 :: w).flatten
  | a, [] => by simp [joinB, List.intercalate]
  | a, b :: l => by
    have ih := joinB_bar b l
    have e : joinB (a :: b :: l) [124] = a ++ [124] ++ joinB (b :: l) [124] := by simp [joinB, List.intercalate, List.intersperse]
    rw [e, ih]; simp
theorem seqL_rt (n : Nat) (r : List UInt8) (hr : stopT r) : ∀ (l acc : List Rx) (k : Nat), (∀ x ∈ l, RT x) → ((l.map fun x => wrapP [2, 3] x (T x)).flatten).length ≤ n → ((l.map fun x => wrapP [2, 3] x (T x)).flatten ++ r).length + 1 ≤ k →
    pSeqL (pAlt n) k acc ((l.map fun x => wrapP [2, 3] x (T x)).flatten ++ r) = some (acc ++ l, r)
  | [], acc, k, _, _, hk => by
    cases k with
    | zero => omega
    | succ k =>
      show pSeqL (pAlt n) (k + 1) acc r = _
      rw [pSeqL, if_pos (show r = [] ∨ r.head? = some 124 ∨ r.head? = some 41 from hr), List.append_nil]
  | x :: l, acc, k, hx, hn, hk => by
    cases k with
    | zero => omega
    | succ k =>
      obtain ⟨hs, hi⟩ := wrap_item (hx x List.mem_cons_self)
      have hl : ∀ y ∈ l, RT y := fun y hy => hx y (List.mem_cons_of_mem _ hy)
      simp only [List.map_cons, List.flatten_cons, List.append_assoc, List.length_append] at hn hk ⊢
      have hmore : safeT ((l.map fun x => wrapP [2, 3] x (T x)).flatten ++ r) := by
        cases l with
        | nil => exact stop_safe hr
        | cons y l =>
          rw [List.map_cons, List.flatten_cons, List.append_assoc]
          exact start_safe (wrap_item (hl y List.mem_cons_self)).1 _
      have hit := hi n (by omega) _ hmore
      obtain ⟨c, u, e, _, _, _, _, h5, h6⟩ := hs
      have hg : ¬ (wrapP [2, 3] x (T x) ++ ((l.map fun x => wrapP [2, 3] x (T x)).flatten ++ r) = [] ∨ (wrapP [2, 3] x (T x) ++ ((l.map fun x => wrapP [2, 3] x (T x)).flatten ++ r)).head? = some 124 ∨ (wrapP [2, 3] x (T x) ++ ((l.map fun x => wrapP [2, 3] x (T x)).flatten ++ r)).head? = some 41) := by
        rw [e]; simp [h5, h6]
      have hlen : 1 ≤ (wrapP [2, 3] x (T x)).length := by rw [e]; simp
      rw [pSeqL, if_neg hg, hit]
      simp only []
      rw [seqL_rt n r hr l (acc ++ [x]) k hl (by omega) (by simp only [List.length_append]; omega)]
      simp
theorem altL_rt (n : Nat) (r : List UInt8) (hr : lastT r) : ∀ (l acc : List Rx) (k : Nat), (∀ x ∈ l, RT x) → (((l.map fun x => wrapP [3] x (T x)).map fun w => 124 :: w).flatten).length ≤ n → (((l.map fun x => wrapP [3] x (T x)).map fun w => 124 :: w).flatten ++ r).length + 1 ≤ k →
    pAltL (pAlt n) k acc (((l.map fun x => wrapP [3] x (T x)).map fun w => 124 :: w).flatten ++ r) = some (acc ++ l, r)
  | [], acc, k, _, _, hk => by
    cases k with
    | zero => omega
    | succ k =>
      have hn : ¬ (r.head? = some 124) := by
        rcases hr with rfl | hr
        · simp
        · rw [hr]; decide
      show pAltL (pAlt n) (k + 1) acc r = _
      rw [pAltL, if_neg hn, List.append_nil]
  | x :: l, acc, k, hx, hn, hk => by
    cases k with
    | zero => omega
    | succ k =>
      have hl : ∀ y ∈ l, RT y := fun y hy => hx y (List.mem_cons_of_mem _ hy)
      simp only [List.map_cons, List.flatten_cons, List.append_assoc, List.length_append, List.length_cons, List.cons_append] at hn hk ⊢
      have hmore : stopT (((l.map fun x => wrapP [3] x (T x)).map fun w => 124 :: w).flatten ++ r) := by
        cases l with
        | nil => exact last_stop hr
        | cons y l => exact .inr (.inl rfl)
      have hit := wrap_seq (hx x List.mem_cons_self) n (by omega) _ hmore
      rw [pAltL, if_pos (List.head?_cons ..), List.tail_cons, hit]
      simp only []
      rw [altL_rt n r hr l (acc ++ [x]) k hl (by omega) (by simp only [List.length_append]; omega)]
      simp
/-! ### all expressions -/
theorem Rx_eta (x : Rx) : x = .mk x.kind x.set x.mn x.mx x.subs := by cases x; rfl
theorem rt_all : ∀ (m : Nat) (x : Rx), x.lev ≤ m → nodeS x = 0 → (textP x).2 = true → RT x
  | 0, x, hl, _, _ => (no_lev hl).elim
  | m + 1, x, hl, hr, ht => by
    obtain ⟨hf, hc, hs⟩ := right_of hr
    have ih : ∀ y ∈ x.subs, (textP y).2 = true → RT y := fun y hy hy2 => rt_all m y (by have := lev_sub hy; omega) (hs y hy) hy2
    obtain ⟨f1, f2, f3, f4, f5, f6, f7, f8⟩ := hf
    have hTe := textP_eq x
    by_cases k1 : x.kind = 1
    · rw [if_pos k1] at hTe
      have hne : x.set ≠ [] := by
        have := f3.1 k1
        intro e; rw [e] at this; simp at this
      have hx : x = setX x.set := by
        conv => lhs; rw [Rx_eta x]
        have h1 := f8 (by omega)
        have h2 : x.subs = [] := List.eq_nil_of_length_eq_zero (f7 (by omega))
        rw [k1, h1.1, h1.2, h2]; rfl
      have ht' : (setP x.set).2 = true := by rw [← hTe]; exact ht
      have hT : T x = (setP x.set).1 := by unfold T; rw [hTe]
      refine RT.of_atom (by omega) (fun n r => ?_) ?_
      · rw [hT]
        rw [(set_rt (pAlt n) hne ht' r).1, ← hx]
      · rw [hT]; exact (set_rt (pAlt 0) hne ht' []).2
    · rw [if_neg k1] at hTe
      have hset : x.set = [] := List.eq_nil_of_length_eq_zero (by omega)
      by_cases k2 : x.kind = 2
      · rw [if_pos k2] at hTe
        have ht2 : (textL [2, 3] x.subs).isSome = true ∧ ((textL [2, 3] x.subs).getD []).length ≠ 1 := by
          rw [hTe] at ht
          simpa using ht
        cases hw : textL [2, 3] x.subs with
        | none => rw [hw] at ht2; simp at ht2
        | some ws =>
          rw [hw] at hTe ht2
          obtain ⟨w1, w2⟩ := textL_some hw
          have hT : T x = (x.subs.map fun y => wrapP [2, 3] y (T y)).flatten := by
            unfold T; rw [hTe]
            show joinB ws [] = _
            rw [joinB_nil, w1]
          have hlen : x.subs.length ≠ 1 := by
            have := ht2.2
            rw [w1] at this
            simpa using this
          have hx : oneX 2 x.subs = x := by
            unfold oneX
            rw [if_neg hlen]
            conv => rhs; rw [Rx_eta x]
            have h1 := f8 (by omega)
            rw [k2, h1.1, h1.2, hset]
          have hseq : ∀ n r, (T x).length ≤ n → stopT r → pSeq (pAlt n) (T x ++ r) = some (x, r) := fun n r hn hr => by
            rw [hT] at hn ⊢
            unfold pSeq
            rw [seqL_rt n r hr x.subs [] _ (fun y hy => ih y hy (w2 y hy)) hn (Nat.le_refl _)]
            show some (oneX 2 ([] ++ x.subs), r) = _
            rw [List.nil_append, hx]
          exact ⟨fun h => absurd (.inl k2) h, fun h => absurd (.inl k2) h, fun _ => hseq, fun n r hn hr => alt_one (hseq n r hn (last_stop hr)) hr⟩
      · rw [if_neg k2] at hTe
        by_cases k3 : x.kind = 3
        · rw [if_pos k3] at hTe
          have hl2 := f6 k3
          cases hw : textL [3] x.subs with
          | none => rw [hTe, hw] at ht; simp at ht
          | some ws =>
            rw [hw] at hTe
            obtain ⟨w1, w2⟩ := textL_some hw
            have hx : oneX 3 x.subs = x := by
              unfold oneX
              rw [if_neg (by omega)]
              conv => rhs; rw [Rx_eta x]
              have h1 := f8 (by omega)
              rw [k3, h1.1, h1.2, hset]
            cases hsub : x.subs with
            | nil => rw [hsub] at hl2; simp at hl2
            | cons y l =>
              have hT : T x = wrapP [3] y (T y) ++ ((l.map fun z => wrapP [3] z (T z)).map fun w => 124 :: w).flatten := by
                unfold T; rw [hTe]
                show joinB ws [124] = _
                rw [w1, hsub, List.map_cons, joinB_bar]
              have hyr : ∀ z ∈ y :: l, RT z := fun z hz => ih z (by rw [hsub]; exact hz) (w2 z (by rw [hsub]; exact hz))
              refine ⟨fun h => absurd (.inr (.inl k3)) h, fun h => absurd (.inr k3) h, fun h => absurd k3 h, fun n r hn hr => ?_⟩
              rw [hT] at hn ⊢
              rw [List.length_append] at hn
              have hl3 : l ≠ [] := by
                intro e; rw [hsub, e] at hl2; simp at hl2
              have hmore : stopT (((l.map fun z => wrapP [3] z (T z)).map fun w => 124 :: w).flatten ++ r) := by
                cases l with
                | nil => exact absurd rfl hl3
                | cons z l => exact .inr (.inl rfl)
              have h1 := wrap_seq (hyr y List.mem_cons_self) n (by omega) _ hmore
              rw [pAlt, List.append_assoc, h1]
              simp only [Option.bind_some]
              rw [altL_rt n r hr l [y] _ (fun z hz => hyr z (List.mem_cons_of_mem _ hz)) (by omega) (by simp only [List.length_append]; omega)]
              show some (oneX 3 (y :: l), r) = _
              rw [← hsub, hx]
        · rw [if_neg k3] at hTe
          by_cases k4 : x.kind = 4
          · rw [if_pos k4] at hTe
            have hl1 := f5 k4
            cases hw : textL [2, 3, 4] x.subs with
            | none => rw [hTe, hw] at ht; simp at ht
            | some ws =>
              rw [hw] at hTe
              obtain ⟨w1, w2⟩ := textL_some hw
              match hsub : x.subs, hl1 with
              | [y], _ =>
                have hyr : RT y := ih y (by rw [hsub]; exact List.mem_cons_self) (w2 y (by rw [hsub]; exact List.mem_cons_self))
                have hT : T x = wrapP [2, 3, 4] y (T y) ++ sufP x.mn x.mx := by
                  unfold T; rw [hTe]
                  show joinB ws [] ++ _ = _
                  rw [joinB_nil, w1, hsub]; simp
                have hx : repX x.mn x.mx y = x := by
                  conv => rhs; rw [Rx_eta x]
                  rw [k4, hset, hsub]; rfl
                have hb : 0 ≤ x.mn ∧ x.mn ≤ 8 ∧ (x.mx = -1 ∨ (1 ≤ x.mx ∧ x.mx ≤ 8)) := by
                  unfold cntP at hc
                  omega
                have hst := (wrap_atom hyr _ (Nat.le_refl _) []).2
                refine RT.of_item (by omega) (fun h => absurd (.inr (.inr k4)) h) ?_ fun n r hn hr => ?_
                · rw [hT]; exact start_app hst _
                · rw [hT, List.length_append] at hn
                  rw [hT]
                  unfold pItem
                  rw [List.append_assoc, (wrap_atom hyr n (by omega) _).1]
                  simp only [Option.bind_some]
                  rw [sufP_rt y hb r, hx]
          · rw [if_neg k4] at hTe
            have hx0 : x = leafX x.kind := by
              conv => lhs; rw [Rx_eta x]
              have h1 := f8 k4
              have h2 : x.subs = [] := List.eq_nil_of_length_eq_zero (f7 (by omega))
              rw [h1.1, h1.2, h2, hset]; rfl
            by_cases k5 : x.kind = 5
            · rw [if_pos k5] at hTe
              have hT : T x = [94] := by unfold T; rw [hTe]
              refine RT.of_atom (by omega) (fun n r => ?_) ?_
              · rw [hT]
                show pAtom _ (94 :: r) = _
                rw [pAtom_cons, if_neg (by decide), if_pos rfl]
                conv => rhs; rw [hx0, k5]
              · rw [hT]; exact ⟨94, [], rfl, by decide, by decide, by decide, by decide, by decide, by decide⟩
            · rw [if_neg k5] at hTe
              by_cases k6 : x.kind = 6
              · rw [if_pos k6] at hTe
                have hT : T x = [36] := by unfold T; rw [hTe]
                refine RT.of_atom (by omega) (fun n r => ?_) ?_
                · rw [hT]
                  show pAtom _ (36 :: r) = _
                  rw [pAtom_cons, if_neg (by decide), if_neg (by decide), if_pos rfl]
                  conv => rhs; rw [hx0, k6]
                · rw [hT]; exact ⟨36, [], rfl, by decide, by decide, by decide, by decide, by decide, by decide⟩
              · rw [if_neg k6] at hTe
                have k7 : x.kind = 7 := by omega
                have hT : T x = [92, 98] := by unfold T; rw [hTe]
                refine RT.of_atom (by omega) (fun n r => ?_) ?_
                · rw [hT]
                  show pAtom _ (92 :: 98 :: r) = _
                  rw [pAtom_cons, if_neg (by decide), if_neg (by decide), if_neg (by decide), if_neg (by decide), if_neg (by decide), if_pos rfl]
                  show (if (98 : UInt8) = 98 then some (leafX 7, r) else (pEsc 98).map fun l => (setX l, r)) = _
                  rw [if_pos rfl]
                  conv => rhs; rw [hx0, k7]
                · rw [hT]; exact start_92 _
/-- What is printed is parsed as what it was. -/
theorem back (x : Rx) (h : (printP x).2 = 0) : parseP (printP x).1 = (x, 0) ∧ rightS x = 0 ∧ (printP x).1.length ≤ 300 := by
  unfold printP at h ⊢
  by_cases hr : rightS x = 0
  · rw [if_neg (by simp [hr])] at h ⊢
    by_cases ht : (textP x).2 = false ∨ 300 < (textP x).1.length
    · rw [if_pos ht] at h; simp at h
    · rw [if_neg ht]
      have hlen : (textP x).1.length ≤ 300 := by
        have : ¬ 300 < (textP x).1.length := fun h => ht (.inr h)
        omega
      have hok : (textP x).2 = true := by
        cases hb : (textP x).2 with
        | true => rfl
        | false => exact absurd (.inl hb) ht
      have hn := rightS_node hr
      have hrt := (rt_all _ x (Nat.le_refl _) hn hok).alt 300 [] hlen (.inl rfl)
      rw [List.append_nil] at hrt
      have he := (alt_rel 301 (textP x).1 (by omega)).2 x [] hrt
      refine ⟨?_, hr, hlen⟩
      show parseP (textP x).1 = (x, 0)
      unfold parseP
      rw [if_neg (by omega), he, if_neg (by simp), if_neg (by simp [hr])]
  · rw [if_pos hr] at h
    exact absurd h hr
theorem print_err (x : Rx) (h : (printP x).2 ≠ 0) : (printP x).1 = [] := by
  unfold printP at h ⊢
  split
  · rfl
  · rename_i hr
    rw [if_neg hr] at h
    split
    · rfl
    · rename_i ht
      rw [if_neg ht] at h
      exact absurd rfl h
theorem print_right {x : Rx} (hr : rightS x = 0) (h : (printP x).2 ≠ 0) : (printP x).2 = 3 := by
  unfold printP at h ⊢
  rw [if_neg (by simp [hr])] at h ⊢
  split
  · rfl
  · rename_i ht
    rw [if_neg ht] at h
    exact absurd rfl h
theorem parse_err (l : List UInt8) (h : (parseP l).2 ≠ 0) : (parseP l).1 = zeroX := by
  unfold parseP at h ⊢
  split
  · rfl
  · rename_i h1
    rw [if_neg h1] at h
    split
    · rfl
    · rename_i h2
      rw [if_neg h2] at h
      split
      · rfl
      · rename_i h3
        rw [if_neg h3] at h
        exact absurd rfl h
theorem parse_right (l : List UInt8) (h : (parseP l).2 = 0) : rightS (parseP l).1 = 0 := by
  unfold parseP at h ⊢
  split
  · rename_i h1; rw [if_pos h1] at h; simp at h
  · rename_i h1
    rw [if_neg h1] at h
    split
    · rename_i h2; rw [if_pos h2] at h; simp at h
    · rename_i h2
      rw [if_neg h2] at h
      split
      · rename_i h3; rw [if_pos h3] at h; exact absurd h h3
      · rename_i h3
        exact Decidable.of_not_not h3
end Go.Ab
namespace Go.Ab
open Go.Proofs

theorem litZ : ([L.int .i64 0, .lst 48 [], .int .i64 0, .int .i64 0, .lst 25 []] : List L) = encX zeroX := by kernel_rfl
theorem run_RegexBack (x : Rx) : Runs (cfg [k_alive, k_small, k_Print, k_Parse, k_Right, k_rSame 1000000000000]) (.enter 7 [argX x] []) [.bool true] := by
  refine Runs.by (LBack_e · _ _ _ _ _) ?_
  simp only [dec5, isXa5, cond_true, bl_mk, size_mk]
  cases h1 : smallX x with
  | false => exact .ret
  | true =>
    obtain ⟨a1, a2, a3⟩ := small_ok h1
    simp only [Bool.not_true, cond_false, is5 a1 (ok_lev a1), cond_true]
    by_cases h : (printP x).2 = 0
    · obtain ⟨b1, b2, b3⟩ := back x h
      rw [ev_ne_f h, b1, ev_blt (show (printP x).1.length ≤ 9223372036854775807 by omega)]
      simp only [cond_false, cond_true, beq_self_eq_true, b2, dec5, is5 a1 (ok_lev a1), Bool.and_self, sameX_refl]
      exact .ret
    · rw [ev_ne_t h, print_err x h]
      exact .ret
theorem run_RegexAgain (s : ByteArray) : Runs (cfg [k_alive, k_Parse, k_rSame 1000000000000, k_Right, k_Print]) (.enter 8 [.lf (.str s)] []) [.bool true] := by
  obtain ⟨l, rfl⟩ := str_cases s
  refine Runs.by (LAgain_e · _) ?_
  simp only [bl_mk, size_mk]
  by_cases hl : 600 < l.length
  · rw [ev_lt_t (by omega)]; exact .ret
  · obtain ⟨a1, a2⟩ := parseP_ok l
    have al := ok_lev a1
    rw [ev_lt_f (by omega), ev_blt (show l.length ≤ 9223372036854775807 by omega)]
    simp only [cond_false, cond_true]
    by_cases h : (parseP l).2 = 0
    · have hr := parse_right l h
      rw [ev_ne_f h]
      refine .go ?_
      refine Runs.by (LAgain_p8 · _ _ _ _ _) ?_
      rw [dec5, is5 a1 al, hr]
      refine .go ?_
      refine Runs.by (LAgain_p10 · _ _ _ _ _) ?_
      rw [dec5, is5 a1 al]
      by_cases hp : (printP (parseP l).1).2 = 0
      · obtain ⟨b1, b2, b3⟩ := back _ hp
        rw [ev_ne_f hp]
        refine .go ?_
        refine Runs.by (LAgain_p13 · _ _ _ _ _ _) ?_
        simp only [bl_mk, size_mk]
        rw [ev_blt (show (printP (parseP l).1).1.length ≤ 9223372036854775807 by omega), b1]
        refine .go ?_
        refine Runs.by (LAgain_p14 · _ _ _ _ _ _ _ _ _ _ _ _) ?_
        simp only [dec5, is5 a1 al, bl_mk, size_mk, hp, beq_self_eq_true, sameX_refl, Bool.and_self, cond_true]
        rw [ev_le_t (by omega)]
        exact .ret
      · rw [ev_ne_t hp, print_right hr hp]
        exact .ret
    · have hz := parse_err l h
      rw [ev_ne_t h]
      simp only [cond_true, hz, dec5, is5 zeroX_ok (ok_lev zeroX_ok), litZ, isX_enc zeroX_ok (ok_lev zeroX_ok), decX_enc, sameX_refl, Bool.and_self]
      exact .ret
end Go.Ab
namespace Go.Ab
open Go.Proofs

def ranR (l : List (UInt8 × UInt8)) : List UInt8 × Bool := if l.all (fun r => visB r.1 && visB r.2) then (l.flatMap inR, true) else ([], false)
/-- A set as the reference writes it. -/
def setR (l : List (UInt8 × UInt8)) : List UInt8 × Bool :=
  if canR (fun j => hasI l (j : Nat)) 256 ≠ l then ([], false)
  else if l.length = 1 ∧ (l.getD 0 (0, 0)).1 = (l.getD 0 (0, 0)).2 ∧ visB (l.getD 0 (0, 0)).1 = true then (wrB (l.getD 0 (0, 0)).1 spcs, true)
  else if canR (fun j => !(hasI l (j : Nat))) 256 = [(10, 10)] then ([46], true)
  else if (ranR l).2 then ([91] ++ (ranR l).1 ++ [93], true)
  else if (ranR (canR (fun j => !(hasI l (j : Nat))) 256)).2 ∧ 0 < (canR (fun j => !(hasI l (j : Nat))) 256).length then ([91, 94] ++ (ranR (canR (fun j => !(hasI l (j : Nat))) 256)).1 ++ [93], true)
  else ([], false)
def ksOf (k : Int) : List Int := if k = 2 then [2, 3] else if k = 4 then [2, 3, 4] else [3]
mutual
/-- An expression as the reference writes it. -/
def canP : Rx → List UInt8 × Bool
  | .mk k s mn mx ss =>
    if k = 1 then setR s else if k = 5 then ([94], true) else if k = 6 then ([36], true) else if k = 7 then ([92, 98], true)
    else if k = 4 then canH mn mx ss
    else if k = 2 ∧ ss.length = 1 then ([], false) else canL k ss [] true
def canH (mn mx : Int) : List Rx → List UInt8 × Bool
  | [] => ([], false)
  | y :: _ => (wrapP [2, 3, 4] y (canP y).1 ++ sufP mn mx, (canP y).2)
def canL (k : Int) : List Rx → List UInt8 → Bool → List UInt8 × Bool
  | [], acc, _ => (acc, true)
  | y :: ys, acc, first => if (canP y).2 = true then canL k ys (acc ++ (if k = 3 ∧ first = false then [124] else []) ++ wrapP (ksOf k) y (canP y).1) false else ([], false)
end
def printR (x : Rx) : List UInt8 × Int := if rightS x ≠ 0 then ([], rightS x) else if (canP x).2 = false ∨ 300 < (canP x).1.length then ([], 3) else ((canP x).1, 0)
noncomputable def k_inText : Nat × Con := (n_codesearchref08_inText, fun
  | [.lf (.str s), .lf (.int .u8 c)], [] => some (okB c && Nat.ble s.size 1000000, [.bool (decide (u8 c ∈ bl s))])
  | _, _ => none)
noncomputable def k_writable : Nat × Con := (n_codesearchref08_writable, fun
  | [.lf (.int .u8 c)], [] => some (okB c, [.bool (visB (u8 c))])
  | _, _ => none)
noncomputable def k_quoted : Nat × Con := (n_codesearchref08_quoted, fun
  | [.lf (.int .u8 c), .lf (.str m)], [] => some (okB c && Nat.ble m.size 1000000, [.str (mk (wrB (u8 c) (bl m)))])
  | _, _ => none)
noncomputable def k_rranges : Nat × Con := (n_codesearchref08_ranges, fun
  | [.lf (.lst 48 xs)], [] => some (isRs xs, [.str (mk (ranR (decRs xs)).1), .bool (ranR (decRs xs)).2])
  | _, _ => none)
noncomputable def k_ofSet : Nat × Con := (n_codesearchref08_ofSet, fun
  | [.lf (.lst 48 xs)], [] => some (isRs xs, [.str (mk (setR (decRs xs)).1), .bool (setR (decRs xs)).2])
  | _, _ => none)
noncomputable def k_digits : Nat × Con := (n_codesearchref08_digits, fun
  | [.lf (.int .i64 n)], [] => some (leI 0 n && leI n 99, [.str (mk (decN n))])
  | _, _ => none)
noncomputable def k_suffix : Nat × Con := (n_codesearchref08_suffix, fun
  | [.lf (.int .i64 a), .lf (.int .i64 b)], [] => some ((leI 0 a && leI a 99) && (leI (-1) b && leI b 99), [.str (mk (sufP a b))])
  | _, _ => none)
noncomputable def k_inner (n : Nat) : Nat × Con := (n_codesearchref08_inner, fun
  | [.lf (.int .i64 k), .agg [.int .i64 a0, .lst 48 a1, .int .i64 a2, .int .i64 a3, .lst 25 a4]], [] =>
    some ((leI 2 k && leI k 4) && (isX [.int .i64 a0, .lst 48 a1, .int .i64 a2, .int .i64 a3, .lst 25 a4] n && ((nodeS (decX [.int .i64 a0, .lst 48 a1, .int .i64 a2, .int .i64 a3, .lst 25 a4]) == 0) && Nat.ble (decX [.int .i64 a0, .lst 48 a1, .int .i64 a2, .int .i64 a3, .lst 25 a4]).nodes 1000)),
      [.str (mk (wrapP (ksOf k) (decX [.int .i64 a0, .lst 48 a1, .int .i64 a2, .int .i64 a3, .lst 25 a4]) (canP (decX [.int .i64 a0, .lst 48 a1, .int .i64 a2, .int .i64 a3, .lst 25 a4])).1)), .bool (canP (decX [.int .i64 a0, .lst 48 a1, .int .i64 a2, .int .i64 a3, .lst 25 a4])).2])
  | _, _ => none)
noncomputable def k_canonical (n : Nat) : Nat × Con := (n_codesearchref08_canonical, cX1t n fun x => [.str (mk (canP x).1), .bool (canP x).2])
noncomputable def k_rPrint : Nat × Con := (n_codesearchref08_Print, cX1 1000000000000 fun x => [.str (mk (printR x).1), .int .i64 (printR x).2])
end Go.Ab
namespace Go.Ab
open Go.Proofs

def pBn (l : List UInt8) : Option ((Int × Int) × List UInt8) :=
  match pNum l with
  | none => none
  | some (m, t) =>
    match t with
    | [] => none
    | c :: u =>
      if c = 125 then some ((m, m), u) else if c ≠ 44 then none
      else match u with
        | [] => none
        | d :: v =>
          if d = 125 then some ((m, -1), v)
          else match pNum (d :: v) with
            | none => none
            | some (k, w) => if w.head? = some 125 then some ((m, k), w.tail) else none
/-- Where the rest begins. -/
def optE {α : Type} (n : Nat) (o : Option (α × List UInt8)) : Int := match o with | some p => (n : Int) - (p.2.length : Int) | none => -1
def optX (o : Option (Rx × List UInt8)) : Rx := match o with | some p => p.1 | none => zeroX
def optR (o : Option (Rng × List UInt8)) : Rng := match o with | some p => p.1 | none => []
def optI (o : Option (Int × List UInt8)) : Int := match o with | some p => p.1 | none => 0
def optM (o : Option ((Int × Int) × List UInt8)) : Int × Int := match o with | some p => p.1 | none => (0, 0)
def atS (s : ByteArray) (a : Int) : List UInt8 := (bl s).drop a.toNat
def inS (s : ByteArray) (a : Int) : Bool := Nat.ble s.size 1000 && (leI 0 a && leI a s.size)
def inS1 (s : ByteArray) (a : Int) : Bool := Nat.ble s.size 1000 && (leI 0 a && ltI a s.size)
noncomputable def k_resc : Nat × Con := (n_codesearchref08_escape, fun
  | [.lf (.int .u8 c)], [] => some (okB c, [.lst 48 (encRs ((pEsc (u8 c)).getD [])), .bool (pEsc (u8 c)).isSome])
  | _, _ => none)
noncomputable def k_rcls : Nat × Con := (n_codesearchref08_class, fun
  | [.lf (.str s), .lf (.int .i64 a)], [] => some (inS s a, [.bool (isCls (atS s a))])
  | _, _ => none)
noncomputable def k_rone : Nat × Con := (n_codesearchref08_one, fun
  | [.lf (.str s), .lf (.int .i64 a)], [] => some (inS s a, [.lst 48 (encRs (optR (pOne (atS s a)))), .int .i64 (optE s.size (pOne (atS s a)))])
  | _, _ => none)
/-- Of the string behind the place. -/
noncomputable def k_rset : Nat × Con := (n_codesearchref08_set, fun
  | [.lf (.str s), .lf (.int .i64 a)], [] => some (inS1 s a, [.int .i64 (cond (pSet (atS s (a + 1))).isSome 1 0), .lst 48 (encRs (optR (pSet (atS s (a + 1))))), .int .i64 0, .int .i64 0, .lst 25 [], .int .i64 (optE s.size (pSet (atS s (a + 1))))])
  | _, _ => none)
noncomputable def k_rbyte : Nat × Con := (n_codesearchref08_byteOf, fun
  | [.lf (.int .u8 c)], [] => some (true, [.int .i64 1, .lst 48 [[.int .u8 c, .int .u8 c]], .int .i64 0, .int .i64 0, .lst 25 []])
  | _, _ => none)
noncomputable def k_rnum : Nat × Con := (n_codesearchref08_number, fun
  | [.lf (.str s), .lf (.int .i64 a)], [] => some (inS s a, [.int .i64 (optI (pNum (atS s a))), .int .i64 (optE s.size (pNum (atS s a)))])
  | _, _ => none)
noncomputable def k_rbr : Nat × Con := (n_codesearchref08_bounds, fun
  | [.lf (.str s), .lf (.int .i64 a)], [] => some (inS1 s a, [.int .i64 (optM (pBn (atS s (a + 1)))).1, .int .i64 (optM (pBn (atS s (a + 1)))).2, .int .i64 (optE s.size (pBn (atS s (a + 1))))])
  | _, _ => none)
noncomputable def k_ratom (n : Nat) : Nat × Con := (n_codesearchref08_atom, fun
  | [.lf (.str s), .lf (.int .i64 a)], [] => some (inS1 s a && leI ((s.size : Int) - a) n, cells5 (optX (pAtom (pAlt n) (atS s a))) ++ [.int .i64 (optE s.size (pAtom (pAlt n) (atS s a)))])
  | _, _ => none)
noncomputable def k_ritem (n : Nat) : Nat × Con := (n_codesearchref08_item, fun
  | [.lf (.str s), .lf (.int .i64 a)], [] => some (inS1 s a && leI ((s.size : Int) - a) n, cells5 (optX (pItem (pAlt n) (atS s a))) ++ [.int .i64 (optE s.size (pItem (pAlt n) (atS s a)))])
  | _, _ => none)
noncomputable def k_rseq (n : Nat) : Nat × Con := (n_codesearchref08_seq, fun
  | [.lf (.str s), .lf (.int .i64 a)], [] => some (inS s a && leI ((s.size : Int) - a) n, cells5 (optX (pSeq (pAlt n) (atS s a))) ++ [.int .i64 (optE s.size (pSeq (pAlt n) (atS s a)))])
  | _, _ => none)
noncomputable def k_ralt (n : Nat) : Nat × Con := (n_codesearchref08_alt, fun
  | [.lf (.str s), .lf (.int .i64 a)], [] => some (inS s a && leI ((s.size : Int) - a + 1) n, cells5 (optX (pAlt n (atS s a))) ++ [.int .i64 (optE s.size (pAlt n (atS s a)))])
  | _, _ => none)
/-- As the layer parses. -/
noncomputable def k_rParse : Nat × Con := (n_codesearchref08_Parse, fun
  | [.lf (.str s)], [] => some (Nat.ble s.size 9223372036854775807, cells5 (parseP (bl s)).1 ++ [.int .i64 (parseP (bl s)).2])
  | _, _ => none)
end Go.Ab
namespace Go.Ab
open Go.Proofs
/-! codesearch/codesearchref08.escape -/
theorem resc_e (G : Req → R) (c0 : Int) : runB (cfg [k_inText]) G (.enter 93 [(.lf (.int IntKind.u8 (c0)))] []) =
  (cond (c0 == 110)
   (some [(.lst 48 [[(.int IntKind.u8 (10)), (.int IntKind.u8 (10))]]), (.bool (true))])
   (cond (c0 == 116)
    (some [(.lst 48 [[(.int IntKind.u8 (9)), (.int IntKind.u8 (9))]]), (.bool (true))])
    (cond (c0 == 100)
     (some [(.lst 48 [[(.int IntKind.u8 (48)), (.int IntKind.u8 (57))]]), (.bool (true))])
     (cond (c0 == 119)
      (some [(.lst 48 [[(.int IntKind.u8 (48)), (.int IntKind.u8 (57))], [(.int IntKind.u8 (65)), (.int IntKind.u8 (90))], [(.int IntKind.u8 (95)), (.int IntKind.u8 (95))], [(.int IntKind.u8 (97)), (.int IntKind.u8 (122))]]), (.bool (true))])
      (cond (c0 == 45)
       (some [(.lst 48 [[(.int IntKind.u8 (c0)), (.int IntKind.u8 (c0))]]), (.bool (true))])
       (cond (okB c0 && true)
        (cond (decide (u8 c0 ∈ bl (mk [92, 46, 42, 43, 63, 40, 41, 91, 93, 123, 125, 124, 94, 36])))
         (some [(.lst 48 [[(.int IntKind.u8 (c0)), (.int IntKind.u8 (c0))]]), (.bool (true))])
         (some [(.lst 48 []), (.bool (false))]))
        none)))))) := by kernel_rfl

/-! codesearch/codesearchref08.class -/
theorem rcls_e (G : Req → R) (s0 : ByteArray) (at1 : Int) : runB (cfg []) G (.enter 102 [(.lf (.str (s0))), (.lf (.int IntKind.i64 (at1)))] []) =
  (cond (ltI (wrapI IntKind.i64 (at1 + 1)) (↑(ByteArray.size s0) : Int))
   (cond (leI 0 at1 && ltI at1 (↑(ByteArray.size s0) : Int))
    (cond (byI s0 at1 == 92)
     (cond (leI 0 (wrapI IntKind.i64 (at1 + 1)) && ltI (wrapI IntKind.i64 (at1 + 1)) (↑(ByteArray.size s0) : Int))
      (cond (byI s0 (wrapI IntKind.i64 (at1 + 1)) == 100)
       (some [(.bool (true))])
       (cond (leI 0 (wrapI IntKind.i64 (at1 + 1)) && ltI (wrapI IntKind.i64 (at1 + 1)) (↑(ByteArray.size s0) : Int))
        (some [(.bool (byI s0 (wrapI IntKind.i64 (at1 + 1)) == 119))])
        none))
      none)
     (some [(.bool (false))]))
    none)
   (some [(.bool (false))])) := by kernel_rfl

/-! codesearch/codesearchref08.one -/
theorem rone_e (G : Req → R) (s0 : ByteArray) (at1 : Int) : runB (cfg [k_resc, k_inText]) G (.enter 101 [(.lf (.str (s0))), (.lf (.int IntKind.i64 (at1)))] []) =
  (cond (leI (↑(ByteArray.size s0) : Int) at1)
   (some [(.lst 48 []), (.int IntKind.i64 (-1))])
   (cond (leI 0 at1 && ltI at1 (↑(ByteArray.size s0) : Int))
    (cond (ltI (byI s0 at1) 32)
     (some [(.lst 48 []), (.int IntKind.i64 (-1))])
     (cond (leI 0 at1 && ltI at1 (↑(ByteArray.size s0) : Int))
      (cond (ltI 126 (byI s0 at1))
       (some [(.lst 48 []), (.int IntKind.i64 (-1))])
       (cond (leI 0 at1 && ltI at1 (↑(ByteArray.size s0) : Int))
        (cond (byI s0 at1 == 92)
         (cond (leI (↑(ByteArray.size s0) : Int) (wrapI IntKind.i64 (at1 + 1)))
          (some [(.lst 48 []), (.int IntKind.i64 (-1))])
          (cond (leI 0 (wrapI IntKind.i64 (at1 + 1)) && ltI (wrapI IntKind.i64 (at1 + 1)) (↑(ByteArray.size s0) : Int))
           (cond (okB (byI s0 (wrapI IntKind.i64 (at1 + 1))))
            (cond (!Option.isSome (pEsc (u8 (byI s0 (wrapI IntKind.i64 (at1 + 1))))))
             (some [(.lst 48 []), (.int IntKind.i64 (-1))])
             (some [(.lst 48 (encRs (Option.getD (pEsc (u8 (byI s0 (wrapI IntKind.i64 (at1 + 1))))) []))), (.int IntKind.i64 (wrapI IntKind.i64 (at1 + 2)))]))
            none)
           none))
         (cond (leI 0 at1 && ltI at1 (↑(ByteArray.size s0) : Int))
          (cond (okB (byI s0 at1) && true)
           (cond (decide (u8 (byI s0 at1) ∈ bl (mk [92, 91, 93, 94, 45])))
            (some [(.lst 48 []), (.int IntKind.i64 (-1))])
            (cond (leI 0 at1 && ltI at1 (↑(ByteArray.size s0) : Int))
             (cond (leI 0 at1 && ltI at1 (↑(ByteArray.size s0) : Int))
              (some [(.lst 48 [[(.int IntKind.u8 (byI s0 at1)), (.int IntKind.u8 (byI s0 at1))]]), (.int IntKind.i64 (wrapI IntKind.i64 (at1 + 1)))])
              none)
             none))
           none)
          none))
        none))
      none))
    none)) := by kernel_rfl

/-! codesearch/codesearchref08.set -/
noncomputable def rset_q7 (s0 : ByteArray) (i6 : Int) (other7 : Bool) (h0_0 : Int) (h0_2 : Int) (h0_3 : Int) (h1 : List (List L)) (h2 : List (List L)) (h3 : List (List L)) : Req := .point 92 [] (todoAt Tryd.prog 92 7) ⟨[(.lf (.str s0)), an, an, an, (.lf (.ptr 0 0)), an, (.lf (.int IntKind.i64 i6)), (.lf (.bool other7)), (.lf (.row 1)), an, an, an, an, an, an, an, an, an, an, an, an, an, an, an, an, an, an, an, an, an, an, an, an, an, an, an, an, an, an, an, an, an, an, an, an, an, an, an, an, an, an, an, an, an, an, an, an, an, an, an, an, an, an, an, an, an, an, an, an, an, an, an, an, an, an, an, an, an, an, an, an, an, an, an, an, an, an, an, an, an, an, an, an, an, an, an, an, an, an, an, an, an, an, an, an, an, an, an, an, an, an, an, an, an, an, an, an, an, an, an, an, an], [(.box [(.int IntKind.i64), (.sl 48), (.int IntKind.i64), (.int IntKind.i64), (.sl 25)] [(.int IntKind.i64 h0_0), (.row 2), (.int IntKind.i64 h0_2), (.int IntKind.i64 h0_3), (.row 3)]), (.row 48 h1 true), (.row 48 h2 true), (.row 25 h3 true)]⟩
theorem rset_e (G : Req → R) (s0 : ByteArray) (at1 : Int) : runB (cfg [k_rone, k_rcls, k_Ranges]) G (.enter 92 [(.lf (.str (s0))), (.lf (.int IntKind.i64 (at1)))] []) =
  (cond (ltI (wrapI IntKind.i64 (at1 + 1)) (↑(ByteArray.size s0) : Int))
   (cond (leI 0 (wrapI IntKind.i64 (at1 + 1)) && ltI (wrapI IntKind.i64 (at1 + 1)) (↑(ByteArray.size s0) : Int))
    (cond (byI s0 (wrapI IntKind.i64 (at1 + 1)) == 94)
     (G (rset_q7 s0 (wrapI IntKind.i64 (wrapI IntKind.i64 (at1 + 1) + 1)) true 0 0 0 [] [] []))
     (G (rset_q7 s0 (wrapI IntKind.i64 (at1 + 1)) false 0 0 0 [] [] [])))
    none)
   (G (rset_q7 s0 (wrapI IntKind.i64 (at1 + 1)) false 0 0 0 [] [] []))) := by kernel_rfl
theorem rset_p7 (G : Req → R) (s0 : ByteArray) (i6 : Int) (other7 : Bool) (h0_0 : Int) (h0_2 : Int) (h0_3 : Int) (h1 : List (List L)) (h2 : List (List L)) (h3 : List (List L)) : runB (cfg [k_rone, k_rcls, k_Ranges]) G (rset_q7 s0 i6 other7 h0_0 h0_2 h0_3 h1 h2 h3) =
  (cond (ltI i6 (↑(ByteArray.size s0) : Int))
   (cond (leI 0 i6 && ltI i6 (↑(ByteArray.size s0) : Int))
    (cond (byI s0 i6 != 93)
     (cond (inS s0 i6)
      (cond (ltI (optE (ByteArray.size s0) (pOne (atS s0 i6))) 0)
       (some [(.int IntKind.i64 (0)), (.lst 48 []), (.int IntKind.i64 (0)), (.int IntKind.i64 (0)), (.lst 25 []), (.int IntKind.i64 (-1))])
       (cond (inS s0 i6)
        (cond (!isCls (atS s0 i6))
         (cond (ltI (optE (ByteArray.size s0) (pOne (atS s0 i6))) (↑(ByteArray.size s0) : Int))
          (cond (leI 0 (optE (ByteArray.size s0) (pOne (atS s0 i6))) && ltI (optE (ByteArray.size s0) (pOne (atS s0 i6))) (↑(ByteArray.size s0) : Int))
           (cond (byI s0 (optE (ByteArray.size s0) (pOne (atS s0 i6))) == 45)
            (cond (inS s0 (wrapI IntKind.i64 (optE (ByteArray.size s0) (pOne (atS s0 i6)) + 1)))
             (cond (isCls (atS s0 (wrapI IntKind.i64 (optE (ByteArray.size s0) (pOne (atS s0 i6)) + 1))))
              (some [(.int IntKind.i64 (0)), (.lst 48 []), (.int IntKind.i64 (0)), (.int IntKind.i64 (0)), (.lst 25 []), (.int IntKind.i64 (-1))])
              (cond (inS s0 (wrapI IntKind.i64 (optE (ByteArray.size s0) (pOne (atS s0 i6)) + 1)))
               (cond (ltI (optE (ByteArray.size s0) (pOne (atS s0 (wrapI IntKind.i64 (optE (ByteArray.size s0) (pOne (atS s0 i6)) + 1))))) 0)
                (some [(.int IntKind.i64 (0)), (.lst 48 []), (.int IntKind.i64 (0)), (.int IntKind.i64 (0)), (.lst 25 []), (.int IntKind.i64 (-1))])
                (cond (ltI 0 (↑(List.length (encRs (optR (pOne (atS s0 (wrapI IntKind.i64 (optE (ByteArray.size s0) (pOne (atS s0 i6)) + 1))))))) : Int))
                 (cond (ltI 0 (↑(List.length (encRs (optR (pOne (atS s0 i6))))) : Int))
                  (cond (ltI (cI 0 (atL (encRs (optR (pOne (atS s0 (wrapI IntKind.i64 (optE (ByteArray.size s0) (pOne (atS s0 i6)) + 1)))))) 0)) (cI 0 (atL (encRs (optR (pOne (atS s0 i6)))) 0)))
                   (some [(.int IntKind.i64 (0)), (.lst 48 []), (.int IntKind.i64 (0)), (.int IntKind.i64 (0)), (.lst 25 []), (.int IntKind.i64 (-1))])
                   (cond (ltI 0 (↑(List.length (encRs (optR (pOne (atS s0 i6))))) : Int))
                    (cond (ltI 0 (↑(List.length (encRs (optR (pOne (atS s0 (wrapI IntKind.i64 (optE (ByteArray.size s0) (pOne (atS s0 i6)) + 1))))))) : Int))
                     (cond (roomN (List.length h1 + 1) 2)
                      (G (rset_q7 s0 (optE (ByteArray.size s0) (pOne (atS s0 (wrapI IntKind.i64 (optE (ByteArray.size s0) (pOne (atS s0 i6)) + 1))))) other7 h0_0 h0_2 h0_3 (h1 ++ [[L.int IntKind.u8 (cI 0 (atL (encRs (optR (pOne (atS s0 i6)))) 0)), L.int IntKind.u8 (cI 0 (atL (encRs (optR (pOne (atS s0 (wrapI IntKind.i64 (optE (ByteArray.size s0) (pOne (atS s0 i6)) + 1)))))) 0))]]) h2 h3))
                      none)
                     none)
                    none))
                  none)
                 none))
               none))
             none)
            (cond (roomN (List.length h1 + List.length (encRs (optR (pOne (atS s0 i6))))) 2)
             (G (rset_q7 s0 (optE (ByteArray.size s0) (pOne (atS s0 i6))) other7 h0_0 h0_2 h0_3 (h1 ++ encRs (optR (pOne (atS s0 i6)))) h2 h3))
             none))
           none)
          (cond (roomN (List.length h1 + List.length (encRs (optR (pOne (atS s0 i6))))) 2)
           (G (rset_q7 s0 (optE (ByteArray.size s0) (pOne (atS s0 i6))) other7 h0_0 h0_2 h0_3 (h1 ++ encRs (optR (pOne (atS s0 i6)))) h2 h3))
           none))
         (cond (roomN (List.length h1 + List.length (encRs (optR (pOne (atS s0 i6))))) 2)
          (G (rset_q7 s0 (optE (ByteArray.size s0) (pOne (atS s0 i6))) other7 h0_0 h0_2 h0_3 (h1 ++ encRs (optR (pOne (atS s0 i6)))) h2 h3))
          none))
        none))
      none)
     (cond (leI (↑(ByteArray.size s0) : Int) i6)
      (some [(.int IntKind.i64 (0)), (.lst 48 []), (.int IntKind.i64 (0)), (.int IntKind.i64 (0)), (.lst 25 []), (.int IntKind.i64 (-1))])
      (cond ((↑(List.length h1) : Int) == 0)
       (some [(.int IntKind.i64 (0)), (.lst 48 []), (.int IntKind.i64 (0)), (.int IntKind.i64 (0)), (.lst 25 []), (.int IntKind.i64 (-1))])
       (cond (isRs h1)
        (some [(.int IntKind.i64 (1)), (.lst 48 (encRs (canR (fun j => !hasI (decRs h1) (↑j : Int) == other7) 256))), (.int IntKind.i64 (0)), (.int IntKind.i64 (0)), (.lst 25 []), (.int IntKind.i64 (wrapI IntKind.i64 (i6 + 1)))])
        none))))
    none)
   (cond (leI (↑(ByteArray.size s0) : Int) i6)
    (some [(.int IntKind.i64 (0)), (.lst 48 []), (.int IntKind.i64 (0)), (.int IntKind.i64 (0)), (.lst 25 []), (.int IntKind.i64 (-1))])
    (cond ((↑(List.length h1) : Int) == 0)
     (some [(.int IntKind.i64 (0)), (.lst 48 []), (.int IntKind.i64 (0)), (.int IntKind.i64 (0)), (.lst 25 []), (.int IntKind.i64 (-1))])
     (cond (isRs h1)
      (some [(.int IntKind.i64 (1)), (.lst 48 (encRs (canR (fun j => !hasI (decRs h1) (↑j : Int) == other7) 256))), (.int IntKind.i64 (0)), (.int IntKind.i64 (0)), (.lst 25 []), (.int IntKind.i64 (wrapI IntKind.i64 (i6 + 1)))])
      none)))) := by kernel_rfl

/-! codesearch/codesearchref08.byteOf -/
theorem rbyte_e (G : Req → R) (c0 : Int) : runB (cfg []) G (.enter 94 [(.lf (.int IntKind.u8 (c0)))] []) =
  (some [(.int IntKind.i64 (1)), (.lst 48 [[(.int IntKind.u8 (c0)), (.int IntKind.u8 (c0))]]), (.int IntKind.i64 (0)), (.int IntKind.i64 (0)), (.lst 25 [])]) := by kernel_rfl

/-! codesearch/codesearchref08.number -/
noncomputable def rnum_q3 (s0 : ByteArray) (at1 : Int) (n6 : Int) (i7 : Int) : Req := .point 95 [] (todoAt Tryd.prog 95 3) ⟨[(.lf (.str s0)), (.lf (.int IntKind.i64 at1)), an, an, an, an, (.lf (.int IntKind.i64 n6)), (.lf (.int IntKind.i64 i7)), an, an, an, an, an, an, an, an, an, an, an, an, an, an, an, an, an, an, an, an, an, an, an, an, an, an, an, an, an, an, an, an, an, an, an, an, an, an, an, an, an, an, an, an, an, an, an, an, an, an, an, an, an, an, an, an], []⟩
theorem rnum_e (G : Req → R) (s0 : ByteArray) (at1 : Int) : runB (cfg []) G (.enter 95 [(.lf (.str (s0))), (.lf (.int IntKind.i64 (at1)))] []) =
  (G (rnum_q3 s0 at1 0 at1)) := by kernel_rfl
theorem rnum_p3 (G : Req → R) (s0 : ByteArray) (at1 : Int) (n6 : Int) (i7 : Int) : runB (cfg []) G (rnum_q3 s0 at1 n6 i7) =
  (cond (ltI i7 (↑(ByteArray.size s0) : Int))
   (cond (ltI i7 (wrapI IntKind.i64 (at1 + 4)))
    (cond (leI 0 i7 && ltI i7 (↑(ByteArray.size s0) : Int))
     (cond (leI 48 (byI s0 i7))
      (cond (leI 0 i7 && ltI i7 (↑(ByteArray.size s0) : Int))
       (cond (leI (byI s0 i7) 57)
        (cond (leI 0 i7 && ltI i7 (↑(ByteArray.size s0) : Int))
         (G (rnum_q3 s0 at1 (wrapI IntKind.i64 (wrapI IntKind.i64 (n6 * 10) + wrapI IntKind.i64 (wrapI IntKind.u8 (byI s0 i7 - 48)))) (wrapI IntKind.i64 (i7 + 1))))
         none)
        (cond (i7 == at1)
         (some [(.int IntKind.i64 (0)), (.int IntKind.i64 (-1))])
         (cond (ltI (wrapI IntKind.i64 (at1 + 3)) i7)
          (some [(.int IntKind.i64 (0)), (.int IntKind.i64 (-1))])
          (cond (leI 0 at1 && ltI at1 (↑(ByteArray.size s0) : Int))
           (cond (byI s0 at1 == 48)
            (cond (ltI (wrapI IntKind.i64 (at1 + 1)) i7)
             (some [(.int IntKind.i64 (0)), (.int IntKind.i64 (-1))])
             (some [(.int IntKind.i64 (n6)), (.int IntKind.i64 (i7))]))
            (some [(.int IntKind.i64 (n6)), (.int IntKind.i64 (i7))]))
           none))))
       none)
      (cond (i7 == at1)
       (some [(.int IntKind.i64 (0)), (.int IntKind.i64 (-1))])
       (cond (ltI (wrapI IntKind.i64 (at1 + 3)) i7)
        (some [(.int IntKind.i64 (0)), (.int IntKind.i64 (-1))])
        (cond (leI 0 at1 && ltI at1 (↑(ByteArray.size s0) : Int))
         (cond (byI s0 at1 == 48)
          (cond (ltI (wrapI IntKind.i64 (at1 + 1)) i7)
           (some [(.int IntKind.i64 (0)), (.int IntKind.i64 (-1))])
           (some [(.int IntKind.i64 (n6)), (.int IntKind.i64 (i7))]))
          (some [(.int IntKind.i64 (n6)), (.int IntKind.i64 (i7))]))
         none))))
     none)
    (cond (i7 == at1)
     (some [(.int IntKind.i64 (0)), (.int IntKind.i64 (-1))])
     (cond (ltI (wrapI IntKind.i64 (at1 + 3)) i7)
      (some [(.int IntKind.i64 (0)), (.int IntKind.i64 (-1))])
      (cond (leI 0 at1 && ltI at1 (↑(ByteArray.size s0) : Int))
       (cond (byI s0 at1 == 48)
        (cond (ltI (wrapI IntKind.i64 (at1 + 1)) i7)
         (some [(.int IntKind.i64 (0)), (.int IntKind.i64 (-1))])
         (some [(.int IntKind.i64 (n6)), (.int IntKind.i64 (i7))]))
        (some [(.int IntKind.i64 (n6)), (.int IntKind.i64 (i7))]))
       none))))
   (cond (i7 == at1)
    (some [(.int IntKind.i64 (0)), (.int IntKind.i64 (-1))])
    (cond (ltI (wrapI IntKind.i64 (at1 + 3)) i7)
     (some [(.int IntKind.i64 (0)), (.int IntKind.i64 (-1))])
     (cond (leI 0 at1 && ltI at1 (↑(ByteArray.size s0) : Int))
      (cond (byI s0 at1 == 48)
       (cond (ltI (wrapI IntKind.i64 (at1 + 1)) i7)
        (some [(.int IntKind.i64 (0)), (.int IntKind.i64 (-1))])
        (some [(.int IntKind.i64 (n6)), (.int IntKind.i64 (i7))]))
       (some [(.int IntKind.i64 (n6)), (.int IntKind.i64 (i7))]))
      none)))) := by kernel_rfl

/-! codesearch/codesearchref08.bounds -/
theorem rbr_e (G : Req → R) (s0 : ByteArray) (at1 : Int) : runB (cfg [k_rnum]) G (.enter 82 [(.lf (.str (s0))), (.lf (.int IntKind.i64 (at1)))] []) =
  (cond (inS s0 (wrapI IntKind.i64 (at1 + 1)))
   (cond (ltI (optE (ByteArray.size s0) (pNum (atS s0 (wrapI IntKind.i64 (at1 + 1))))) 0)
    (some [(.int IntKind.i64 (0)), (.int IntKind.i64 (0)), (.int IntKind.i64 (-1))])
    (cond (leI (↑(ByteArray.size s0) : Int) (optE (ByteArray.size s0) (pNum (atS s0 (wrapI IntKind.i64 (at1 + 1))))))
     (some [(.int IntKind.i64 (0)), (.int IntKind.i64 (0)), (.int IntKind.i64 (-1))])
     (cond (leI 0 (optE (ByteArray.size s0) (pNum (atS s0 (wrapI IntKind.i64 (at1 + 1))))) && ltI (optE (ByteArray.size s0) (pNum (atS s0 (wrapI IntKind.i64 (at1 + 1))))) (↑(ByteArray.size s0) : Int))
      (cond (byI s0 (optE (ByteArray.size s0) (pNum (atS s0 (wrapI IntKind.i64 (at1 + 1))))) == 125)
       (some [(.int IntKind.i64 (optI (pNum (atS s0 (wrapI IntKind.i64 (at1 + 1)))))), (.int IntKind.i64 (optI (pNum (atS s0 (wrapI IntKind.i64 (at1 + 1)))))), (.int IntKind.i64 (wrapI IntKind.i64 (optE (ByteArray.size s0) (pNum (atS s0 (wrapI IntKind.i64 (at1 + 1)))) + 1)))])
       (cond (leI 0 (optE (ByteArray.size s0) (pNum (atS s0 (wrapI IntKind.i64 (at1 + 1))))) && ltI (optE (ByteArray.size s0) (pNum (atS s0 (wrapI IntKind.i64 (at1 + 1))))) (↑(ByteArray.size s0) : Int))
        (cond (byI s0 (optE (ByteArray.size s0) (pNum (atS s0 (wrapI IntKind.i64 (at1 + 1))))) != 44)
         (some [(.int IntKind.i64 (0)), (.int IntKind.i64 (0)), (.int IntKind.i64 (-1))])
         (cond (leI (↑(ByteArray.size s0) : Int) (wrapI IntKind.i64 (optE (ByteArray.size s0) (pNum (atS s0 (wrapI IntKind.i64 (at1 + 1)))) + 1)))
          (some [(.int IntKind.i64 (0)), (.int IntKind.i64 (0)), (.int IntKind.i64 (-1))])
          (cond (leI 0 (wrapI IntKind.i64 (optE (ByteArray.size s0) (pNum (atS s0 (wrapI IntKind.i64 (at1 + 1)))) + 1)) && ltI (wrapI IntKind.i64 (optE (ByteArray.size s0) (pNum (atS s0 (wrapI IntKind.i64 (at1 + 1)))) + 1)) (↑(ByteArray.size s0) : Int))
           (cond (byI s0 (wrapI IntKind.i64 (optE (ByteArray.size s0) (pNum (atS s0 (wrapI IntKind.i64 (at1 + 1)))) + 1)) == 125)
            (some [(.int IntKind.i64 (optI (pNum (atS s0 (wrapI IntKind.i64 (at1 + 1)))))), (.int IntKind.i64 (-1)), (.int IntKind.i64 (wrapI IntKind.i64 (optE (ByteArray.size s0) (pNum (atS s0 (wrapI IntKind.i64 (at1 + 1)))) + 2)))])
            (cond (inS s0 (wrapI IntKind.i64 (optE (ByteArray.size s0) (pNum (atS s0 (wrapI IntKind.i64 (at1 + 1)))) + 1)))
             (cond (ltI (optE (ByteArray.size s0) (pNum (atS s0 (wrapI IntKind.i64 (optE (ByteArray.size s0) (pNum (atS s0 (wrapI IntKind.i64 (at1 + 1)))) + 1))))) 0)
              (some [(.int IntKind.i64 (0)), (.int IntKind.i64 (0)), (.int IntKind.i64 (-1))])
              (cond (leI (↑(ByteArray.size s0) : Int) (optE (ByteArray.size s0) (pNum (atS s0 (wrapI IntKind.i64 (optE (ByteArray.size s0) (pNum (atS s0 (wrapI IntKind.i64 (at1 + 1)))) + 1))))))
               (some [(.int IntKind.i64 (0)), (.int IntKind.i64 (0)), (.int IntKind.i64 (-1))])
               (cond (leI 0 (optE (ByteArray.size s0) (pNum (atS s0 (wrapI IntKind.i64 (optE (ByteArray.size s0) (pNum (atS s0 (wrapI IntKind.i64 (at1 + 1)))) + 1))))) && ltI (optE (ByteArray.size s0) (pNum (atS s0 (wrapI IntKind.i64 (optE (ByteArray.size s0) (pNum (atS s0 (wrapI IntKind.i64 (at1 + 1)))) + 1))))) (↑(ByteArray.size s0) : Int))
                (cond (byI s0 (optE (ByteArray.size s0) (pNum (atS s0 (wrapI IntKind.i64 (optE (ByteArray.size s0) (pNum (atS s0 (wrapI IntKind.i64 (at1 + 1)))) + 1))))) != 125)
                 (some [(.int IntKind.i64 (0)), (.int IntKind.i64 (0)), (.int IntKind.i64 (-1))])
                 (some [(.int IntKind.i64 (optI (pNum (atS s0 (wrapI IntKind.i64 (at1 + 1)))))), (.int IntKind.i64 (optI (pNum (atS s0 (wrapI IntKind.i64 (optE (ByteArray.size s0) (pNum (atS s0 (wrapI IntKind.i64 (at1 + 1)))) + 1)))))), (.int IntKind.i64 (wrapI IntKind.i64 (optE (ByteArray.size s0) (pNum (atS s0 (wrapI IntKind.i64 (optE (ByteArray.size s0) (pNum (atS s0 (wrapI IntKind.i64 (at1 + 1)))) + 1)))) + 1)))]))
                none)))
             none))
           none)))
        none))
      none)))
   none) := by kernel_rfl

/-! codesearch/codesearchref08.atom -/
theorem ratom_e (G : Req → R) (n : Nat) (s0 : ByteArray) (at1 : Int) : runB (cfg [(k_ralt n), k_rset, k_Ranges, k_resc, k_inText, k_rbyte]) G (.enter 81 [(.lf (.str (s0))), (.lf (.int IntKind.i64 (at1)))] []) =
  (cond (leI 0 at1 && ltI at1 (↑(ByteArray.size s0) : Int))
   (cond (byI s0 at1 == 40)
    (cond (inS s0 (wrapI IntKind.i64 (at1 + 1)) && leI ((↑(ByteArray.size s0) : Int) - wrapI IntKind.i64 (at1 + 1) + 1) (↑n : Int))
     (cond (ltI (optE (ByteArray.size s0) (pAlt n (atS s0 (wrapI IntKind.i64 (at1 + 1))))) 0)
      (some [(.int IntKind.i64 (0)), (.lst 48 []), (.int IntKind.i64 (0)), (.int IntKind.i64 (0)), (.lst 25 []), (.int IntKind.i64 (-1))])
      (cond (leI (↑(ByteArray.size s0) : Int) (optE (ByteArray.size s0) (pAlt n (atS s0 (wrapI IntKind.i64 (at1 + 1))))))
       (some [(.int IntKind.i64 (0)), (.lst 48 []), (.int IntKind.i64 (0)), (.int IntKind.i64 (0)), (.lst 25 []), (.int IntKind.i64 (-1))])
       (cond (leI 0 (optE (ByteArray.size s0) (pAlt n (atS s0 (wrapI IntKind.i64 (at1 + 1))))) && ltI (optE (ByteArray.size s0) (pAlt n (atS s0 (wrapI IntKind.i64 (at1 + 1))))) (↑(ByteArray.size s0) : Int))
        (cond (byI s0 (optE (ByteArray.size s0) (pAlt n (atS s0 (wrapI IntKind.i64 (at1 + 1))))) != 41)
         (some [(.int IntKind.i64 (0)), (.lst 48 []), (.int IntKind.i64 (0)), (.int IntKind.i64 (0)), (.lst 25 []), (.int IntKind.i64 (-1))])
         (some [(.int IntKind.i64 (Rx.kind (optX (pAlt n (atS s0 (wrapI IntKind.i64 (at1 + 1))))))), (.lst 48 (encRs (Rx.set (optX (pAlt n (atS s0 (wrapI IntKind.i64 (at1 + 1)))))))), (.int IntKind.i64 (Rx.mn (optX (pAlt n (atS s0 (wrapI IntKind.i64 (at1 + 1))))))), (.int IntKind.i64 (Rx.mx (optX (pAlt n (atS s0 (wrapI IntKind.i64 (at1 + 1))))))), (.lst 25 (List.map encX (Rx.subs (optX (pAlt n (atS s0 (wrapI IntKind.i64 (at1 + 1)))))))), (.int IntKind.i64 (wrapI IntKind.i64 (optE (ByteArray.size s0) (pAlt n (atS s0 (wrapI IntKind.i64 (at1 + 1)))) + 1)))]))
        none)))
     none)
    (cond (byI s0 at1 == 91)
     (cond (inS1 s0 at1)
      (some [(.int IntKind.i64 (bif Option.isSome (pSet (atS s0 (at1 + 1))) then 1 else 0)), (.lst 48 (encRs (optR (pSet (atS s0 (at1 + 1)))))), (.int IntKind.i64 (0)), (.int IntKind.i64 (0)), (.lst 25 []), (.int IntKind.i64 (optE (ByteArray.size s0) (pSet (atS s0 (at1 + 1)))))])
      none)
     (cond (byI s0 at1 == 46)
      (cond (isRs [[L.int IntKind.u8 10, L.int IntKind.u8 10]])
       (some [(.int IntKind.i64 (1)), (.lst 48 (encRs (canR (fun j => !hasI (decRs [[L.int IntKind.u8 10, L.int IntKind.u8 10]]) (↑j : Int) == true) 256))), (.int IntKind.i64 (0)), (.int IntKind.i64 (0)), (.lst 25 []), (.int IntKind.i64 (wrapI IntKind.i64 (at1 + 1)))])
       none)
      (cond (byI s0 at1 == 94)
       (some [(.int IntKind.i64 (5)), (.lst 48 []), (.int IntKind.i64 (0)), (.int IntKind.i64 (0)), (.lst 25 []), (.int IntKind.i64 (wrapI IntKind.i64 (at1 + 1)))])
       (cond (byI s0 at1 == 36)
        (some [(.int IntKind.i64 (6)), (.lst 48 []), (.int IntKind.i64 (0)), (.int IntKind.i64 (0)), (.lst 25 []), (.int IntKind.i64 (wrapI IntKind.i64 (at1 + 1)))])
        (cond (byI s0 at1 == 92)
         (cond (ltI (wrapI IntKind.i64 (at1 + 1)) (↑(ByteArray.size s0) : Int))
          (cond (leI 0 (wrapI IntKind.i64 (at1 + 1)) && ltI (wrapI IntKind.i64 (at1 + 1)) (↑(ByteArray.size s0) : Int))
           (cond (byI s0 (wrapI IntKind.i64 (at1 + 1)) == 98)
            (some [(.int IntKind.i64 (7)), (.lst 48 []), (.int IntKind.i64 (0)), (.int IntKind.i64 (0)), (.lst 25 []), (.int IntKind.i64 (wrapI IntKind.i64 (at1 + 2)))])
            (cond (ltI (wrapI IntKind.i64 (at1 + 1)) (↑(ByteArray.size s0) : Int))
             (cond (leI 0 (wrapI IntKind.i64 (at1 + 1)) && ltI (wrapI IntKind.i64 (at1 + 1)) (↑(ByteArray.size s0) : Int))
              (cond (okB (byI s0 (wrapI IntKind.i64 (at1 + 1))))
               (cond (Option.isSome (pEsc (u8 (byI s0 (wrapI IntKind.i64 (at1 + 1))))))
                (some [(.int IntKind.i64 (1)), (.lst 48 (encRs (Option.getD (pEsc (u8 (byI s0 (wrapI IntKind.i64 (at1 + 1))))) []))), (.int IntKind.i64 (0)), (.int IntKind.i64 (0)), (.lst 25 []), (.int IntKind.i64 (wrapI IntKind.i64 (at1 + 2)))])
                (some [(.int IntKind.i64 (0)), (.lst 48 []), (.int IntKind.i64 (0)), (.int IntKind.i64 (0)), (.lst 25 []), (.int IntKind.i64 (-1))]))
               none)
              none)
             (some [(.int IntKind.i64 (0)), (.lst 48 []), (.int IntKind.i64 (0)), (.int IntKind.i64 (0)), (.lst 25 []), (.int IntKind.i64 (-1))])))
           none)
          (cond (ltI (wrapI IntKind.i64 (at1 + 1)) (↑(ByteArray.size s0) : Int))
           (cond (leI 0 (wrapI IntKind.i64 (at1 + 1)) && ltI (wrapI IntKind.i64 (at1 + 1)) (↑(ByteArray.size s0) : Int))
            (cond (okB (byI s0 (wrapI IntKind.i64 (at1 + 1))))
             (cond (Option.isSome (pEsc (u8 (byI s0 (wrapI IntKind.i64 (at1 + 1))))))
              (some [(.int IntKind.i64 (1)), (.lst 48 (encRs (Option.getD (pEsc (u8 (byI s0 (wrapI IntKind.i64 (at1 + 1))))) []))), (.int IntKind.i64 (0)), (.int IntKind.i64 (0)), (.lst 25 []), (.int IntKind.i64 (wrapI IntKind.i64 (at1 + 2)))])
              (some [(.int IntKind.i64 (0)), (.lst 48 []), (.int IntKind.i64 (0)), (.int IntKind.i64 (0)), (.lst 25 []), (.int IntKind.i64 (-1))]))
             none)
            none)
           (some [(.int IntKind.i64 (0)), (.lst 48 []), (.int IntKind.i64 (0)), (.int IntKind.i64 (0)), (.lst 25 []), (.int IntKind.i64 (-1))])))
         (cond (ltI (byI s0 at1) 32)
          (some [(.int IntKind.i64 (0)), (.lst 48 []), (.int IntKind.i64 (0)), (.int IntKind.i64 (0)), (.lst 25 []), (.int IntKind.i64 (-1))])
          (cond (ltI 126 (byI s0 at1))
           (some [(.int IntKind.i64 (0)), (.lst 48 []), (.int IntKind.i64 (0)), (.int IntKind.i64 (0)), (.lst 25 []), (.int IntKind.i64 (-1))])
           (cond (okB (byI s0 at1) && true)
            (cond (decide (u8 (byI s0 at1) ∈ bl (mk [92, 46, 42, 43, 63, 40, 41, 91, 93, 123, 125, 124, 94, 36])))
             (some [(.int IntKind.i64 (0)), (.lst 48 []), (.int IntKind.i64 (0)), (.int IntKind.i64 (0)), (.lst 25 []), (.int IntKind.i64 (-1))])
             (some [(.int IntKind.i64 (1)), (.lst 48 [[(.int IntKind.u8 (byI s0 at1)), (.int IntKind.u8 (byI s0 at1))]]), (.int IntKind.i64 (0)), (.int IntKind.i64 (0)), (.lst 25 []), (.int IntKind.i64 (wrapI IntKind.i64 (at1 + 1)))]))
            none)))))))))
   none) := by kernel_rfl

/-! codesearch/codesearchref08.item -/
theorem ritem_e (G : Req → R) (n : Nat) (s0 : ByteArray) (at1 : Int) : runB (cfg [(k_ratom n), k_rbr]) G (.enter 64 [(.lf (.str (s0))), (.lf (.int IntKind.i64 (at1)))] []) =
  (cond (inS1 s0 at1 && leI ((↑(ByteArray.size s0) : Int) - at1) (↑n : Int))
   (cond (ltI (optE (ByteArray.size s0) (pAtom (pAlt n) (atS s0 at1))) 0)
    (some [(.int IntKind.i64 (Rx.kind (optX (pAtom (pAlt n) (atS s0 at1))))), (.lst 48 (encRs (Rx.set (optX (pAtom (pAlt n) (atS s0 at1)))))), (.int IntKind.i64 (Rx.mn (optX (pAtom (pAlt n) (atS s0 at1))))), (.int IntKind.i64 (Rx.mx (optX (pAtom (pAlt n) (atS s0 at1))))), (.lst 25 (List.map encX (Rx.subs (optX (pAtom (pAlt n) (atS s0 at1)))))), (.int IntKind.i64 (optE (ByteArray.size s0) (pAtom (pAlt n) (atS s0 at1))))])
    (cond (leI (↑(ByteArray.size s0) : Int) (optE (ByteArray.size s0) (pAtom (pAlt n) (atS s0 at1))))
     (some [(.int IntKind.i64 (Rx.kind (optX (pAtom (pAlt n) (atS s0 at1))))), (.lst 48 (encRs (Rx.set (optX (pAtom (pAlt n) (atS s0 at1)))))), (.int IntKind.i64 (Rx.mn (optX (pAtom (pAlt n) (atS s0 at1))))), (.int IntKind.i64 (Rx.mx (optX (pAtom (pAlt n) (atS s0 at1))))), (.lst 25 (List.map encX (Rx.subs (optX (pAtom (pAlt n) (atS s0 at1)))))), (.int IntKind.i64 (optE (ByteArray.size s0) (pAtom (pAlt n) (atS s0 at1))))])
     (cond (leI 0 (optE (ByteArray.size s0) (pAtom (pAlt n) (atS s0 at1))) && ltI (optE (ByteArray.size s0) (pAtom (pAlt n) (atS s0 at1))) (↑(ByteArray.size s0) : Int))
      (cond (byI s0 (optE (ByteArray.size s0) (pAtom (pAlt n) (atS s0 at1))) == 42)
       (cond (wrapI IntKind.i64 (optE (ByteArray.size s0) (pAtom (pAlt n) (atS s0 at1)) + 1) == optE (ByteArray.size s0) (pAtom (pAlt n) (atS s0 at1)))
        (some [(.int IntKind.i64 (Rx.kind (optX (pAtom (pAlt n) (atS s0 at1))))), (.lst 48 (encRs (Rx.set (optX (pAtom (pAlt n) (atS s0 at1)))))), (.int IntKind.i64 (Rx.mn (optX (pAtom (pAlt n) (atS s0 at1))))), (.int IntKind.i64 (Rx.mx (optX (pAtom (pAlt n) (atS s0 at1))))), (.lst 25 (List.map encX (Rx.subs (optX (pAtom (pAlt n) (atS s0 at1)))))), (.int IntKind.i64 (optE (ByteArray.size s0) (pAtom (pAlt n) (atS s0 at1))))])
        (cond (ltI (wrapI IntKind.i64 (optE (ByteArray.size s0) (pAtom (pAlt n) (atS s0 at1)) + 1)) 0)
         (some [(.int IntKind.i64 (0)), (.lst 48 []), (.int IntKind.i64 (0)), (.int IntKind.i64 (0)), (.lst 25 []), (.int IntKind.i64 (-1))])
         (some [(.int IntKind.i64 (4)), (.lst 48 []), (.int IntKind.i64 (0)), (.int IntKind.i64 (-1)), (.lst 25 [[(.int IntKind.i64 (Rx.kind (optX (pAtom (pAlt n) (atS s0 at1))))), (.lst 48 (encRs (Rx.set (optX (pAtom (pAlt n) (atS s0 at1)))))), (.int IntKind.i64 (Rx.mn (optX (pAtom (pAlt n) (atS s0 at1))))), (.int IntKind.i64 (Rx.mx (optX (pAtom (pAlt n) (atS s0 at1))))), (.lst 25 (List.map encX (Rx.subs (optX (pAtom (pAlt n) (atS s0 at1))))))]]), (.int IntKind.i64 (wrapI IntKind.i64 (optE (ByteArray.size s0) (pAtom (pAlt n) (atS s0 at1)) + 1)))])))
       (cond (leI 0 (optE (ByteArray.size s0) (pAtom (pAlt n) (atS s0 at1))) && ltI (optE (ByteArray.size s0) (pAtom (pAlt n) (atS s0 at1))) (↑(ByteArray.size s0) : Int))
        (cond (byI s0 (optE (ByteArray.size s0) (pAtom (pAlt n) (atS s0 at1))) == 43)
         (cond (wrapI IntKind.i64 (optE (ByteArray.size s0) (pAtom (pAlt n) (atS s0 at1)) + 1) == optE (ByteArray.size s0) (pAtom (pAlt n) (atS s0 at1)))
          (some [(.int IntKind.i64 (Rx.kind (optX (pAtom (pAlt n) (atS s0 at1))))), (.lst 48 (encRs (Rx.set (optX (pAtom (pAlt n) (atS s0 at1)))))), (.int IntKind.i64 (Rx.mn (optX (pAtom (pAlt n) (atS s0 at1))))), (.int IntKind.i64 (Rx.mx (optX (pAtom (pAlt n) (atS s0 at1))))), (.lst 25 (List.map encX (Rx.subs (optX (pAtom (pAlt n) (atS s0 at1)))))), (.int IntKind.i64 (optE (ByteArray.size s0) (pAtom (pAlt n) (atS s0 at1))))])
          (cond (ltI (wrapI IntKind.i64 (optE (ByteArray.size s0) (pAtom (pAlt n) (atS s0 at1)) + 1)) 0)
           (some [(.int IntKind.i64 (0)), (.lst 48 []), (.int IntKind.i64 (0)), (.int IntKind.i64 (0)), (.lst 25 []), (.int IntKind.i64 (-1))])
           (some [(.int IntKind.i64 (4)), (.lst 48 []), (.int IntKind.i64 (1)), (.int IntKind.i64 (-1)), (.lst 25 [[(.int IntKind.i64 (Rx.kind (optX (pAtom (pAlt n) (atS s0 at1))))), (.lst 48 (encRs (Rx.set (optX (pAtom (pAlt n) (atS s0 at1)))))), (.int IntKind.i64 (Rx.mn (optX (pAtom (pAlt n) (atS s0 at1))))), (.int IntKind.i64 (Rx.mx (optX (pAtom (pAlt n) (atS s0 at1))))), (.lst 25 (List.map encX (Rx.subs (optX (pAtom (pAlt n) (atS s0 at1))))))]]), (.int IntKind.i64 (wrapI IntKind.i64 (optE (ByteArray.size s0) (pAtom (pAlt n) (atS s0 at1)) + 1)))])))
         (cond (leI 0 (optE (ByteArray.size s0) (pAtom (pAlt n) (atS s0 at1))) && ltI (optE (ByteArray.size s0) (pAtom (pAlt n) (atS s0 at1))) (↑(ByteArray.size s0) : Int))
          (cond (byI s0 (optE (ByteArray.size s0) (pAtom (pAlt n) (atS s0 at1))) == 63)
           (cond (wrapI IntKind.i64 (optE (ByteArray.size s0) (pAtom (pAlt n) (atS s0 at1)) + 1) == optE (ByteArray.size s0) (pAtom (pAlt n) (atS s0 at1)))
            (some [(.int IntKind.i64 (Rx.kind (optX (pAtom (pAlt n) (atS s0 at1))))), (.lst 48 (encRs (Rx.set (optX (pAtom (pAlt n) (atS s0 at1)))))), (.int IntKind.i64 (Rx.mn (optX (pAtom (pAlt n) (atS s0 at1))))), (.int IntKind.i64 (Rx.mx (optX (pAtom (pAlt n) (atS s0 at1))))), (.lst 25 (List.map encX (Rx.subs (optX (pAtom (pAlt n) (atS s0 at1)))))), (.int IntKind.i64 (optE (ByteArray.size s0) (pAtom (pAlt n) (atS s0 at1))))])
            (cond (ltI (wrapI IntKind.i64 (optE (ByteArray.size s0) (pAtom (pAlt n) (atS s0 at1)) + 1)) 0)
             (some [(.int IntKind.i64 (0)), (.lst 48 []), (.int IntKind.i64 (0)), (.int IntKind.i64 (0)), (.lst 25 []), (.int IntKind.i64 (-1))])
             (some [(.int IntKind.i64 (4)), (.lst 48 []), (.int IntKind.i64 (0)), (.int IntKind.i64 (1)), (.lst 25 [[(.int IntKind.i64 (Rx.kind (optX (pAtom (pAlt n) (atS s0 at1))))), (.lst 48 (encRs (Rx.set (optX (pAtom (pAlt n) (atS s0 at1)))))), (.int IntKind.i64 (Rx.mn (optX (pAtom (pAlt n) (atS s0 at1))))), (.int IntKind.i64 (Rx.mx (optX (pAtom (pAlt n) (atS s0 at1))))), (.lst 25 (List.map encX (Rx.subs (optX (pAtom (pAlt n) (atS s0 at1))))))]]), (.int IntKind.i64 (wrapI IntKind.i64 (optE (ByteArray.size s0) (pAtom (pAlt n) (atS s0 at1)) + 1)))])))
           (cond (leI 0 (optE (ByteArray.size s0) (pAtom (pAlt n) (atS s0 at1))) && ltI (optE (ByteArray.size s0) (pAtom (pAlt n) (atS s0 at1))) (↑(ByteArray.size s0) : Int))
            (cond (byI s0 (optE (ByteArray.size s0) (pAtom (pAlt n) (atS s0 at1))) == 123)
             (cond (inS1 s0 (optE (ByteArray.size s0) (pAtom (pAlt n) (atS s0 at1))))
              (cond (optE (ByteArray.size s0) (pBn (atS s0 (optE (ByteArray.size s0) (pAtom (pAlt n) (atS s0 at1)) + 1))) == optE (ByteArray.size s0) (pAtom (pAlt n) (atS s0 at1)))
               (some [(.int IntKind.i64 (Rx.kind (optX (pAtom (pAlt n) (atS s0 at1))))), (.lst 48 (encRs (Rx.set (optX (pAtom (pAlt n) (atS s0 at1)))))), (.int IntKind.i64 (Rx.mn (optX (pAtom (pAlt n) (atS s0 at1))))), (.int IntKind.i64 (Rx.mx (optX (pAtom (pAlt n) (atS s0 at1))))), (.lst 25 (List.map encX (Rx.subs (optX (pAtom (pAlt n) (atS s0 at1)))))), (.int IntKind.i64 (optE (ByteArray.size s0) (pAtom (pAlt n) (atS s0 at1))))])
               (cond (ltI (optE (ByteArray.size s0) (pBn (atS s0 (optE (ByteArray.size s0) (pAtom (pAlt n) (atS s0 at1)) + 1)))) 0)
                (some [(.int IntKind.i64 (0)), (.lst 48 []), (.int IntKind.i64 (0)), (.int IntKind.i64 (0)), (.lst 25 []), (.int IntKind.i64 (-1))])
                (some [(.int IntKind.i64 (4)), (.lst 48 []), (.int IntKind.i64 (Prod.fst (optM (pBn (atS s0 (optE (ByteArray.size s0) (pAtom (pAlt n) (atS s0 at1)) + 1)))))), (.int IntKind.i64 (Prod.snd (optM (pBn (atS s0 (optE (ByteArray.size s0) (pAtom (pAlt n) (atS s0 at1)) + 1)))))), (.lst 25 [[(.int IntKind.i64 (Rx.kind (optX (pAtom (pAlt n) (atS s0 at1))))), (.lst 48 (encRs (Rx.set (optX (pAtom (pAlt n) (atS s0 at1)))))), (.int IntKind.i64 (Rx.mn (optX (pAtom (pAlt n) (atS s0 at1))))), (.int IntKind.i64 (Rx.mx (optX (pAtom (pAlt n) (atS s0 at1))))), (.lst 25 (List.map encX (Rx.subs (optX (pAtom (pAlt n) (atS s0 at1))))))]]), (.int IntKind.i64 (optE (ByteArray.size s0) (pBn (atS s0 (optE (ByteArray.size s0) (pAtom (pAlt n) (atS s0 at1)) + 1)))))])))
              none)
             (cond (optE (ByteArray.size s0) (pAtom (pAlt n) (atS s0 at1)) == optE (ByteArray.size s0) (pAtom (pAlt n) (atS s0 at1)))
              (some [(.int IntKind.i64 (Rx.kind (optX (pAtom (pAlt n) (atS s0 at1))))), (.lst 48 (encRs (Rx.set (optX (pAtom (pAlt n) (atS s0 at1)))))), (.int IntKind.i64 (Rx.mn (optX (pAtom (pAlt n) (atS s0 at1))))), (.int IntKind.i64 (Rx.mx (optX (pAtom (pAlt n) (atS s0 at1))))), (.lst 25 (List.map encX (Rx.subs (optX (pAtom (pAlt n) (atS s0 at1)))))), (.int IntKind.i64 (optE (ByteArray.size s0) (pAtom (pAlt n) (atS s0 at1))))])
              (cond (ltI (optE (ByteArray.size s0) (pAtom (pAlt n) (atS s0 at1))) 0)
               (some [(.int IntKind.i64 (0)), (.lst 48 []), (.int IntKind.i64 (0)), (.int IntKind.i64 (0)), (.lst 25 []), (.int IntKind.i64 (-1))])
               (some [(.int IntKind.i64 (4)), (.lst 48 []), (.int IntKind.i64 (0)), (.int IntKind.i64 (0)), (.lst 25 [[(.int IntKind.i64 (Rx.kind (optX (pAtom (pAlt n) (atS s0 at1))))), (.lst 48 (encRs (Rx.set (optX (pAtom (pAlt n) (atS s0 at1)))))), (.int IntKind.i64 (Rx.mn (optX (pAtom (pAlt n) (atS s0 at1))))), (.int IntKind.i64 (Rx.mx (optX (pAtom (pAlt n) (atS s0 at1))))), (.lst 25 (List.map encX (Rx.subs (optX (pAtom (pAlt n) (atS s0 at1))))))]]), (.int IntKind.i64 (optE (ByteArray.size s0) (pAtom (pAlt n) (atS s0 at1))))]))))
            none))
          none))
        none))
      none)))
   none) := by kernel_rfl

/-! codesearch/codesearchref08.seq -/
noncomputable def rseq_q2 (s0 : ByteArray) (at1 : Int) (h0_0 : Int) (h0_2 : Int) (h0_3 : Int) (h1 : List (List L)) (h2 : List (List L)) (h3 : List (List L)) : Req := .point 52 [] (todoAt Tryd.prog 52 2) ⟨[(.lf (.str s0)), (.lf (.int IntKind.i64 at1)), an, an, (.lf (.ptr 0 0)), an, (.lf (.row 1)), an, an, an, an, an, an, an, an, an, an, an, an, an, an, an, an, an, an, an, an, an, an, an, an, an, an, an, an, an, an, an, an, an, an, an, an, an, an, an, an, an, an, an], [(.box [(.int IntKind.i64), (.sl 48), (.int IntKind.i64), (.int IntKind.i64), (.sl 25)] [(.int IntKind.i64 h0_0), (.row 2), (.int IntKind.i64 h0_2), (.int IntKind.i64 h0_3), (.row 3)]), (.row 25 h1 true), (.row 48 h2 true), (.row 25 h3 true)]⟩
theorem rseq_e (G : Req → R) (n : Nat) (s0 : ByteArray) (at1 : Int) : runB (cfg [(k_ritem n)]) G (.enter 52 [(.lf (.str (s0))), (.lf (.int IntKind.i64 (at1)))] []) =
  (G (rseq_q2 s0 at1 0 0 0 [] [] [])) := by kernel_rfl
theorem rseq_p2 (G : Req → R) (n : Nat) (s0 : ByteArray) (at1 : Int) (h0_0 : Int) (h0_2 : Int) (h0_3 : Int) (h1 : List (List L)) (h2 : List (List L)) (h3 : List (List L)) : runB (cfg [(k_ritem n)]) G (rseq_q2 s0 at1 h0_0 h0_2 h0_3 h1 h2 h3) =
  (cond (ltI at1 (↑(ByteArray.size s0) : Int))
   (cond (leI 0 at1 && ltI at1 (↑(ByteArray.size s0) : Int))
    (cond (byI s0 at1 != 124)
     (cond (leI 0 at1 && ltI at1 (↑(ByteArray.size s0) : Int))
      (cond (byI s0 at1 != 41)
       (cond (inS1 s0 at1 && leI ((↑(ByteArray.size s0) : Int) - at1) (↑n : Int))
        (cond (ltI (optE (ByteArray.size s0) (pItem (pAlt n) (atS s0 at1))) 0)
         (some [(.int IntKind.i64 (0)), (.lst 48 []), (.int IntKind.i64 (0)), (.int IntKind.i64 (0)), (.lst 25 []), (.int IntKind.i64 (-1))])
         (cond (roomN (List.length h1 + 1) 72)
          (G (rseq_q2 s0 (optE (ByteArray.size s0) (pItem (pAlt n) (atS s0 at1))) h0_0 h0_2 h0_3 (h1 ++ [[L.int IntKind.i64 (Rx.kind (optX (pItem (pAlt n) (atS s0 at1)))), L.lst 48 (encRs (Rx.set (optX (pItem (pAlt n) (atS s0 at1))))), L.int IntKind.i64 (Rx.mn (optX (pItem (pAlt n) (atS s0 at1)))), L.int IntKind.i64 (Rx.mx (optX (pItem (pAlt n) (atS s0 at1)))), L.lst 25 (List.map encX (Rx.subs (optX (pItem (pAlt n) (atS s0 at1)))))]]) h2 h3))
          none))
        none)
       (cond ((↑(List.length h1) : Int) == 1)
        (cond (ltI 0 (↑(List.length h1) : Int))
         (some [(.int IntKind.i64 (cI 0 (atL h1 0))), (.lst 48 (cX 1 (atL h1 0))), (.int IntKind.i64 (cI 2 (atL h1 0))), (.int IntKind.i64 (cI 3 (atL h1 0))), (.lst 25 (cX 4 (atL h1 0))), (.int IntKind.i64 (at1))])
         none)
        (some [(.int IntKind.i64 (2)), (.lst 48 []), (.int IntKind.i64 (0)), (.int IntKind.i64 (0)), (.lst 25 h1), (.int IntKind.i64 (at1))])))
      none)
     (cond ((↑(List.length h1) : Int) == 1)
      (cond (ltI 0 (↑(List.length h1) : Int))
       (some [(.int IntKind.i64 (cI 0 (atL h1 0))), (.lst 48 (cX 1 (atL h1 0))), (.int IntKind.i64 (cI 2 (atL h1 0))), (.int IntKind.i64 (cI 3 (atL h1 0))), (.lst 25 (cX 4 (atL h1 0))), (.int IntKind.i64 (at1))])
       none)
      (some [(.int IntKind.i64 (2)), (.lst 48 []), (.int IntKind.i64 (0)), (.int IntKind.i64 (0)), (.lst 25 h1), (.int IntKind.i64 (at1))])))
    none)
   (cond ((↑(List.length h1) : Int) == 1)
    (cond (ltI 0 (↑(List.length h1) : Int))
     (some [(.int IntKind.i64 (cI 0 (atL h1 0))), (.lst 48 (cX 1 (atL h1 0))), (.int IntKind.i64 (cI 2 (atL h1 0))), (.int IntKind.i64 (cI 3 (atL h1 0))), (.lst 25 (cX 4 (atL h1 0))), (.int IntKind.i64 (at1))])
     none)
    (some [(.int IntKind.i64 (2)), (.lst 48 []), (.int IntKind.i64 (0)), (.int IntKind.i64 (0)), (.lst 25 h1), (.int IntKind.i64 (at1))]))) := by kernel_rfl

/-! codesearch/codesearchref08.alt -/
noncomputable def ralt_q2 (s0 : ByteArray) (at1 : Int) (h0_0 : Int) (h0_2 : Int) (h0_3 : Int) (h1 : List (List L)) (h2 : List (List L)) (h3 : List (List L)) : Req := .point 40 [] (todoAt Tryd.prog 40 2) ⟨[(.lf (.str s0)), (.lf (.int IntKind.i64 at1)), an, an, (.lf (.ptr 0 0)), an, (.lf (.row 1)), an, an, an, an, an, an, an, an, an, an, an, an, an, an, an, an, an, an, an, an, an, an, an, an, an, an, an, an, an, an, an, an, an, an, an, an, an, an, an], [(.box [(.int IntKind.i64), (.sl 48), (.int IntKind.i64), (.int IntKind.i64), (.sl 25)] [(.int IntKind.i64 h0_0), (.row 2), (.int IntKind.i64 h0_2), (.int IntKind.i64 h0_3), (.row 3)]), (.row 25 h1 true), (.row 48 h2 true), (.row 25 h3 true)]⟩
theorem ralt_e (G : Req → R) (n : Nat) (s0 : ByteArray) (at1 : Int) : runB (cfg [(k_rseq n)]) G (.enter 40 [(.lf (.str (s0))), (.lf (.int IntKind.i64 (at1)))] []) =
  (G (ralt_q2 s0 at1 0 0 0 [] [] [])) := by kernel_rfl
theorem ralt_p2 (G : Req → R) (n : Nat) (s0 : ByteArray) (at1 : Int) (h0_0 : Int) (h0_2 : Int) (h0_3 : Int) (h1 : List (List L)) (h2 : List (List L)) (h3 : List (List L)) : runB (cfg [(k_rseq n)]) G (ralt_q2 s0 at1 h0_0 h0_2 h0_3 h1 h2 h3) =
  (cond (inS s0 at1 && leI ((↑(ByteArray.size s0) : Int) - at1) (↑n : Int))
   (cond (ltI (optE (ByteArray.size s0) (pSeq (pAlt n) (atS s0 at1))) 0)
    (some [(.int IntKind.i64 (0)), (.lst 48 []), (.int IntKind.i64 (0)), (.int IntKind.i64 (0)), (.lst 25 []), (.int IntKind.i64 (-1))])
    (cond (roomN (List.length h1 + 1) 72)
     (cond (leI (↑(ByteArray.size s0) : Int) (optE (ByteArray.size s0) (pSeq (pAlt n) (atS s0 at1))))
      (cond ((↑(List.length (h1 ++ [[L.int IntKind.i64 (Rx.kind (optX (pSeq (pAlt n) (atS s0 at1)))), L.lst 48 (encRs (Rx.set (optX (pSeq (pAlt n) (atS s0 at1))))), L.int IntKind.i64 (Rx.mn (optX (pSeq (pAlt n) (atS s0 at1)))), L.int IntKind.i64 (Rx.mx (optX (pSeq (pAlt n) (atS s0 at1)))), L.lst 25 (List.map encX (Rx.subs (optX (pSeq (pAlt n) (atS s0 at1)))))]])) : Int) == 1)
       (cond (ltI 0 (↑(List.length (h1 ++ [[L.int IntKind.i64 (Rx.kind (optX (pSeq (pAlt n) (atS s0 at1)))), L.lst 48 (encRs (Rx.set (optX (pSeq (pAlt n) (atS s0 at1))))), L.int IntKind.i64 (Rx.mn (optX (pSeq (pAlt n) (atS s0 at1)))), L.int IntKind.i64 (Rx.mx (optX (pSeq (pAlt n) (atS s0 at1)))), L.lst 25 (List.map encX (Rx.subs (optX (pSeq (pAlt n) (atS s0 at1)))))]])) : Int))
        (some [(.int IntKind.i64 (cI 0 (atL (h1 ++ [[L.int IntKind.i64 (Rx.kind (optX (pSeq (pAlt n) (atS s0 at1)))), L.lst 48 (encRs (Rx.set (optX (pSeq (pAlt n) (atS s0 at1))))), L.int IntKind.i64 (Rx.mn (optX (pSeq (pAlt n) (atS s0 at1)))), L.int IntKind.i64 (Rx.mx (optX (pSeq (pAlt n) (atS s0 at1)))), L.lst 25 (List.map encX (Rx.subs (optX (pSeq (pAlt n) (atS s0 at1)))))]]) 0))), (.lst 48 (cX 1 (atL (h1 ++ [[L.int IntKind.i64 (Rx.kind (optX (pSeq (pAlt n) (atS s0 at1)))), L.lst 48 (encRs (Rx.set (optX (pSeq (pAlt n) (atS s0 at1))))), L.int IntKind.i64 (Rx.mn (optX (pSeq (pAlt n) (atS s0 at1)))), L.int IntKind.i64 (Rx.mx (optX (pSeq (pAlt n) (atS s0 at1)))), L.lst 25 (List.map encX (Rx.subs (optX (pSeq (pAlt n) (atS s0 at1)))))]]) 0))), (.int IntKind.i64 (cI 2 (atL (h1 ++ [[L.int IntKind.i64 (Rx.kind (optX (pSeq (pAlt n) (atS s0 at1)))), L.lst 48 (encRs (Rx.set (optX (pSeq (pAlt n) (atS s0 at1))))), L.int IntKind.i64 (Rx.mn (optX (pSeq (pAlt n) (atS s0 at1)))), L.int IntKind.i64 (Rx.mx (optX (pSeq (pAlt n) (atS s0 at1)))), L.lst 25 (List.map encX (Rx.subs (optX (pSeq (pAlt n) (atS s0 at1)))))]]) 0))), (.int IntKind.i64 (cI 3 (atL (h1 ++ [[L.int IntKind.i64 (Rx.kind (optX (pSeq (pAlt n) (atS s0 at1)))), L.lst 48 (encRs (Rx.set (optX (pSeq (pAlt n) (atS s0 at1))))), L.int IntKind.i64 (Rx.mn (optX (pSeq (pAlt n) (atS s0 at1)))), L.int IntKind.i64 (Rx.mx (optX (pSeq (pAlt n) (atS s0 at1)))), L.lst 25 (List.map encX (Rx.subs (optX (pSeq (pAlt n) (atS s0 at1)))))]]) 0))), (.lst 25 (cX 4 (atL (h1 ++ [[L.int IntKind.i64 (Rx.kind (optX (pSeq (pAlt n) (atS s0 at1)))), L.lst 48 (encRs (Rx.set (optX (pSeq (pAlt n) (atS s0 at1))))), L.int IntKind.i64 (Rx.mn (optX (pSeq (pAlt n) (atS s0 at1)))), L.int IntKind.i64 (Rx.mx (optX (pSeq (pAlt n) (atS s0 at1)))), L.lst 25 (List.map encX (Rx.subs (optX (pSeq (pAlt n) (atS s0 at1)))))]]) 0))), (.int IntKind.i64 (optE (ByteArray.size s0) (pSeq (pAlt n) (atS s0 at1))))])
        none)
       (some [(.int IntKind.i64 (3)), (.lst 48 []), (.int IntKind.i64 (0)), (.int IntKind.i64 (0)), (.lst 25 (h1 ++ [[L.int IntKind.i64 (Rx.kind (optX (pSeq (pAlt n) (atS s0 at1)))), L.lst 48 (encRs (Rx.set (optX (pSeq (pAlt n) (atS s0 at1))))), L.int IntKind.i64 (Rx.mn (optX (pSeq (pAlt n) (atS s0 at1)))), L.int IntKind.i64 (Rx.mx (optX (pSeq (pAlt n) (atS s0 at1)))), L.lst 25 (List.map encX (Rx.subs (optX (pSeq (pAlt n) (atS s0 at1)))))]])), (.int IntKind.i64 (optE (ByteArray.size s0) (pSeq (pAlt n) (atS s0 at1))))]))
      (cond (leI 0 (optE (ByteArray.size s0) (pSeq (pAlt n) (atS s0 at1))) && ltI (optE (ByteArray.size s0) (pSeq (pAlt n) (atS s0 at1))) (↑(ByteArray.size s0) : Int))
       (cond (byI s0 (optE (ByteArray.size s0) (pSeq (pAlt n) (atS s0 at1))) != 124)
        (cond ((↑(List.length (h1 ++ [[L.int IntKind.i64 (Rx.kind (optX (pSeq (pAlt n) (atS s0 at1)))), L.lst 48 (encRs (Rx.set (optX (pSeq (pAlt n) (atS s0 at1))))), L.int IntKind.i64 (Rx.mn (optX (pSeq (pAlt n) (atS s0 at1)))), L.int IntKind.i64 (Rx.mx (optX (pSeq (pAlt n) (atS s0 at1)))), L.lst 25 (List.map encX (Rx.subs (optX (pSeq (pAlt n) (atS s0 at1)))))]])) : Int) == 1)
         (cond (ltI 0 (↑(List.length (h1 ++ [[L.int IntKind.i64 (Rx.kind (optX (pSeq (pAlt n) (atS s0 at1)))), L.lst 48 (encRs (Rx.set (optX (pSeq (pAlt n) (atS s0 at1))))), L.int IntKind.i64 (Rx.mn (optX (pSeq (pAlt n) (atS s0 at1)))), L.int IntKind.i64 (Rx.mx (optX (pSeq (pAlt n) (atS s0 at1)))), L.lst 25 (List.map encX (Rx.subs (optX (pSeq (pAlt n) (atS s0 at1)))))]])) : Int))
          (some [(.int IntKind.i64 (cI 0 (atL (h1 ++ [[L.int IntKind.i64 (Rx.kind (optX (pSeq (pAlt n) (atS s0 at1)))), L.lst 48 (encRs (Rx.set (optX (pSeq (pAlt n) (atS s0 at1))))), L.int IntKind.i64 (Rx.mn (optX (pSeq (pAlt n) (atS s0 at1)))), L.int IntKind.i64 (Rx.mx (optX (pSeq (pAlt n) (atS s0 at1)))), L.lst 25 (List.map encX (Rx.subs (optX (pSeq (pAlt n) (atS s0 at1)))))]]) 0))), (.lst 48 (cX 1 (atL (h1 ++ [[L.int IntKind.i64 (Rx.kind (optX (pSeq (pAlt n) (atS s0 at1)))), L.lst 48 (encRs (Rx.set (optX (pSeq (pAlt n) (atS s0 at1))))), L.int IntKind.i64 (Rx.mn (optX (pSeq (pAlt n) (atS s0 at1)))), L.int IntKind.i64 (Rx.mx (optX (pSeq (pAlt n) (atS s0 at1)))), L.lst 25 (List.map encX (Rx.subs (optX (pSeq (pAlt n) (atS s0 at1)))))]]) 0))), (.int IntKind.i64 (cI 2 (atL (h1 ++ [[L.int IntKind.i64 (Rx.kind (optX (pSeq (pAlt n) (atS s0 at1)))), L.lst 48 (encRs (Rx.set (optX (pSeq (pAlt n) (atS s0 at1))))), L.int IntKind.i64 (Rx.mn (optX (pSeq (pAlt n) (atS s0 at1)))), L.int IntKind.i64 (Rx.mx (optX (pSeq (pAlt n) (atS s0 at1)))), L.lst 25 (List.map encX (Rx.subs (optX (pSeq (pAlt n) (atS s0 at1)))))]]) 0))), (.int IntKind.i64 (cI 3 (atL (h1 ++ [[L.int IntKind.i64 (Rx.kind (optX (pSeq (pAlt n) (atS s0 at1)))), L.lst 48 (encRs (Rx.set (optX (pSeq (pAlt n) (atS s0 at1))))), L.int IntKind.i64 (Rx.mn (optX (pSeq (pAlt n) (atS s0 at1)))), L.int IntKind.i64 (Rx.mx (optX (pSeq (pAlt n) (atS s0 at1)))), L.lst 25 (List.map encX (Rx.subs (optX (pSeq (pAlt n) (atS s0 at1)))))]]) 0))), (.lst 25 (cX 4 (atL (h1 ++ [[L.int IntKind.i64 (Rx.kind (optX (pSeq (pAlt n) (atS s0 at1)))), L.lst 48 (encRs (Rx.set (optX (pSeq (pAlt n) (atS s0 at1))))), L.int IntKind.i64 (Rx.mn (optX (pSeq (pAlt n) (atS s0 at1)))), L.int IntKind.i64 (Rx.mx (optX (pSeq (pAlt n) (atS s0 at1)))), L.lst 25 (List.map encX (Rx.subs (optX (pSeq (pAlt n) (atS s0 at1)))))]]) 0))), (.int IntKind.i64 (optE (ByteArray.size s0) (pSeq (pAlt n) (atS s0 at1))))])
          none)
         (some [(.int IntKind.i64 (3)), (.lst 48 []), (.int IntKind.i64 (0)), (.int IntKind.i64 (0)), (.lst 25 (h1 ++ [[L.int IntKind.i64 (Rx.kind (optX (pSeq (pAlt n) (atS s0 at1)))), L.lst 48 (encRs (Rx.set (optX (pSeq (pAlt n) (atS s0 at1))))), L.int IntKind.i64 (Rx.mn (optX (pSeq (pAlt n) (atS s0 at1)))), L.int IntKind.i64 (Rx.mx (optX (pSeq (pAlt n) (atS s0 at1)))), L.lst 25 (List.map encX (Rx.subs (optX (pSeq (pAlt n) (atS s0 at1)))))]])), (.int IntKind.i64 (optE (ByteArray.size s0) (pSeq (pAlt n) (atS s0 at1))))]))
        (G (ralt_q2 s0 (wrapI IntKind.i64 (optE (ByteArray.size s0) (pSeq (pAlt n) (atS s0 at1)) + 1)) h0_0 h0_2 h0_3 (h1 ++ [[L.int IntKind.i64 (Rx.kind (optX (pSeq (pAlt n) (atS s0 at1)))), L.lst 48 (encRs (Rx.set (optX (pSeq (pAlt n) (atS s0 at1))))), L.int IntKind.i64 (Rx.mn (optX (pSeq (pAlt n) (atS s0 at1)))), L.int IntKind.i64 (Rx.mx (optX (pSeq (pAlt n) (atS s0 at1)))), L.lst 25 (List.map encX (Rx.subs (optX (pSeq (pAlt n) (atS s0 at1)))))]]) h2 h3)))
       none))
     none))
   none) := by kernel_rfl

/-! codesearch/codesearchref08.Parse -/
theorem rParse_e (G : Req → R) (s0 : ByteArray) : runB (cfg [(k_ralt 301), k_rRight]) G (.enter 17 [(.lf (.str (s0)))] []) =
  (cond (ltI 300 (↑(ByteArray.size s0) : Int))
   (some [(.int IntKind.i64 (0)), (.lst 48 []), (.int IntKind.i64 (0)), (.int IntKind.i64 (0)), (.lst 25 []), (.int IntKind.i64 (4))])
   (cond (inS s0 0 && leI ((↑(ByteArray.size s0) : Int) - 0 + 1) (↑301 : Int))
    (cond (optE (ByteArray.size s0) (pAlt 301 (atS s0 0)) != (↑(ByteArray.size s0) : Int))
     (some [(.int IntKind.i64 (0)), (.lst 48 []), (.int IntKind.i64 (0)), (.int IntKind.i64 (0)), (.lst 25 []), (.int IntKind.i64 (3))])
     (cond (isX [L.int IntKind.i64 (Rx.kind (optX (pAlt 301 (atS s0 0)))), L.lst 48 (encRs (Rx.set (optX (pAlt 301 (atS s0 0))))), L.int IntKind.i64 (Rx.mn (optX (pAlt 301 (atS s0 0)))), L.int IntKind.i64 (Rx.mx (optX (pAlt 301 (atS s0 0)))), L.lst 25 (List.map encX (Rx.subs (optX (pAlt 301 (atS s0 0)))))] 1000000000000)
      (cond (rightS (decX [L.int IntKind.i64 (Rx.kind (optX (pAlt 301 (atS s0 0)))), L.lst 48 (encRs (Rx.set (optX (pAlt 301 (atS s0 0))))), L.int IntKind.i64 (Rx.mn (optX (pAlt 301 (atS s0 0)))), L.int IntKind.i64 (Rx.mx (optX (pAlt 301 (atS s0 0)))), L.lst 25 (List.map encX (Rx.subs (optX (pAlt 301 (atS s0 0)))))]) != 0)
       (some [(.int IntKind.i64 (0)), (.lst 48 []), (.int IntKind.i64 (0)), (.int IntKind.i64 (0)), (.lst 25 []), (.int IntKind.i64 (rightS (decX [L.int IntKind.i64 (Rx.kind (optX (pAlt 301 (atS s0 0)))), L.lst 48 (encRs (Rx.set (optX (pAlt 301 (atS s0 0))))), L.int IntKind.i64 (Rx.mn (optX (pAlt 301 (atS s0 0)))), L.int IntKind.i64 (Rx.mx (optX (pAlt 301 (atS s0 0)))), L.lst 25 (List.map encX (Rx.subs (optX (pAlt 301 (atS s0 0)))))])))])
       (some [(.int IntKind.i64 (Rx.kind (optX (pAlt 301 (atS s0 0))))), (.lst 48 (encRs (Rx.set (optX (pAlt 301 (atS s0 0)))))), (.int IntKind.i64 (Rx.mn (optX (pAlt 301 (atS s0 0))))), (.int IntKind.i64 (Rx.mx (optX (pAlt 301 (atS s0 0))))), (.lst 25 (List.map encX (Rx.subs (optX (pAlt 301 (atS s0 0)))))), (.int IntKind.i64 (0))]))
      none))
    none)) := by kernel_rfl

/-! codesearch/codesearchlaw08.RegexParses -/
theorem LParses_e (G : Req → R) (s0 : ByteArray) : runB (cfg [k_alive, k_Parse, k_rParse, (k_rSame 1000000000000)]) G (.enter 4 [(.lf (.str (s0)))] []) =
  (cond (ltI 600 (↑(ByteArray.size s0) : Int))
   (some [(.bool (true))])
   (cond (Nat.ble (ByteArray.size s0) 9223372036854775807)
    (cond (Nat.ble (ByteArray.size s0) 9223372036854775807)
     (cond (Prod.snd (parseP (bl s0)) == Prod.snd (parseP (bl s0)))
      (cond (isX [L.int IntKind.i64 (Rx.kind (Prod.fst (parseP (bl s0)))), L.lst 48 (encRs (Rx.set (Prod.fst (parseP (bl s0))))), L.int IntKind.i64 (Rx.mn (Prod.fst (parseP (bl s0)))), L.int IntKind.i64 (Rx.mx (Prod.fst (parseP (bl s0)))), L.lst 25 (List.map encX (Rx.subs (Prod.fst (parseP (bl s0)))))] 1000000000000 && isX [L.int IntKind.i64 (Rx.kind (Prod.fst (parseP (bl s0)))), L.lst 48 (encRs (Rx.set (Prod.fst (parseP (bl s0))))), L.int IntKind.i64 (Rx.mn (Prod.fst (parseP (bl s0)))), L.int IntKind.i64 (Rx.mx (Prod.fst (parseP (bl s0)))), L.lst 25 (List.map encX (Rx.subs (Prod.fst (parseP (bl s0)))))] 1000000000000)
       (some [(.bool (sameX (decX [L.int IntKind.i64 (Rx.kind (Prod.fst (parseP (bl s0)))), L.lst 48 (encRs (Rx.set (Prod.fst (parseP (bl s0))))), L.int IntKind.i64 (Rx.mn (Prod.fst (parseP (bl s0)))), L.int IntKind.i64 (Rx.mx (Prod.fst (parseP (bl s0)))), L.lst 25 (List.map encX (Rx.subs (Prod.fst (parseP (bl s0)))))]) (decX [L.int IntKind.i64 (Rx.kind (Prod.fst (parseP (bl s0)))), L.lst 48 (encRs (Rx.set (Prod.fst (parseP (bl s0))))), L.int IntKind.i64 (Rx.mn (Prod.fst (parseP (bl s0)))), L.int IntKind.i64 (Rx.mx (Prod.fst (parseP (bl s0)))), L.lst 25 (List.map encX (Rx.subs (Prod.fst (parseP (bl s0)))))])))])
       none)
      (some [(.bool (false))]))
     none)
    none)) := by kernel_rfl

end Go.Ab
namespace Go.Ab
open Go.Proofs

def SufO {α : Type} (o : Option (α × List UInt8)) (l : List UInt8) : Prop := ∀ x t, o = some (x, t) → t <:+ l
theorem SufO.none {α : Type} {l : List UInt8} : SufO (none : Option (α × List UInt8)) l := fun _ _ h => by cases h
theorem SufO.some {α : Type} {x : α} {t l : List UInt8} (h : t <:+ l) : SufO (some (x, t)) l := fun _ _ e => by cases e; exact h
theorem SufO.map {α β : Type} {o : Option (α × List UInt8)} {l : List UInt8} (h : SufO o l) (f : α → β) : SufO (o.map fun p => (f p.1, p.2)) l := by
  intro x t e
  cases o with
  | none => cases e
  | some p => obtain ⟨a, b⟩ := p; cases e; exact h a b rfl
theorem SufO.up {α : Type} {o : Option (α × List UInt8)} {l l' : List UInt8} (h : SufO o l) (hl : l <:+ l') : SufO o l' := fun x t e => (h x t e).trans hl
theorem suf_c (c : UInt8) (r : List UInt8) : r <:+ c :: r := List.suffix_cons c r
theorem suf_escL (r : List UInt8) : SufO (pEscL r) r := by
  cases r with
  | nil => exact .none
  | cons d r' =>
    rw [pEscL]
    intro x t e
    cases h : pEsc d with
    | none => rw [h] at e; cases e
    | some l => rw [h] at e; cases e; exact suf_c _ _
theorem suf_one (l : List UInt8) : SufO (pOne l) l := by
  cases l with
  | nil => exact .none
  | cons c r =>
    rw [pOne]
    split
    · exact .none
    · split
      · exact (suf_escL r).up (suf_c c r)
      · split
        · exact .none
        · exact .some (suf_c c r)
theorem suf_setL : ∀ (n : Nat) (acc : Rng) (l : List UInt8), SufO (pSetL n acc l) l
  | 0, _, _ => .none
  | n + 1, acc, [] => by rw [pSetL]; exact .none
  | n + 1, acc, c :: r => by
    rw [pSetL]
    split
    · split
      · exact .none
      · exact .some (suf_c c r)
    · split
      · exact .none
      · rename_i x t h
        have ht := suf_one _ x t h
        split
        · split
          · exact .none
          · split
            · exact .none
            · rename_i y u hu
              split
              · exact .none
              · exact (suf_setL n _ u).up (((suf_one _ y u hu).trans (List.tail_suffix t)).trans ht)
        · exact (suf_setL n _ t).up ht
theorem suf_set (l : List UInt8) : SufO (pSet l) l := by
  unfold pSet
  refine SufO.map (f := fun q : Rng => canR (fun j => !(hasI q (j : Nat) == decide (l.head? = some 94))) 256) ?_
  refine (suf_setL _ _ _).up ?_
  split
  · exact List.tail_suffix l
  · exact List.suffix_refl l
theorem suf_numL : ∀ (k : Nat) (n : Int) (d : Nat) (l : List UInt8), (pNumL k n d l).2.2 <:+ l
  | 0, n, d, l => List.suffix_refl l
  | k + 1, n, d, [] => by rw [pNumL_nil]; exact List.suffix_refl _
  | k + 1, n, d, c :: r => by
    by_cases h : digB c = true
    · rw [pNumL_go h]; exact (suf_numL k _ _ r).trans (suf_c c r)
    · rw [pNumL_stop h]; exact List.suffix_refl _
theorem suf_num (l : List UInt8) : SufO (pNum l) l := by
  unfold pNum
  split
  · exact .none
  · exact .some (suf_numL _ _ _ _)
theorem suf_bn (l : List UInt8) : SufO (pBn l) l := by
  unfold pBn
  split
  · exact .none
  · rename_i m t h
    have ht := suf_num l m t h
    split
    · exact .none
    · rename_i c u
      have hu := (suf_c c u).trans ht
      split
      · exact .some hu
      · split
        · exact .none
        · split
          · exact .none
          · rename_i d v
            split
            · exact .some ((suf_c d v).trans hu)
            · split
              · exact .none
              · rename_i k w hw
                split
                · exact .some ((List.tail_suffix w).trans ((suf_num _ k w hw).trans hu))
                · exact .none
theorem pBr_bn (x : Rx) (l : List UInt8) : pBr x l = (pBn l).map fun p => (repX p.1.1 p.1.2 x, p.2) := by
  unfold pBr pBn
  cases pNum l with
  | none => rfl
  | some p =>
    obtain ⟨m, t⟩ := p
    cases t with
    | nil => rfl
    | cons c u =>
      simp only []
      split
      · rfl
      · split
        · rfl
        · cases u with
          | nil => rfl
          | cons d v =>
            simp only []
            split
            · rfl
            · cases pNum (d :: v) with
              | none => rfl
              | some q =>
                obtain ⟨k, w⟩ := q
                simp only []
                split
                · rfl
                · rfl
theorem suf_rep (x : Rx) (l : List UInt8) : SufO (pRep x l) l := by
  unfold pRep
  split
  · exact .some (List.suffix_refl _)
  · rename_i c r
    split
    · exact .some (suf_c c r)
    · split
      · exact .some (suf_c c r)
      · split
        · exact .some (suf_c c r)
        · split
          · rw [pBr_bn]
            exact ((suf_bn r).map (fun q : Int × Int => repX q.1 q.2 x)).up (suf_c c r)
          · exact .some (List.suffix_refl _)
theorem suf_atom {alt : List UInt8 → Option (Rx × List UInt8)} (h : ∀ l, SufO (alt l) l) (l : List UInt8) : SufO (pAtom alt l) l := by
  cases l with
  | nil => exact .none
  | cons c r =>
    rw [pAtom_cons]
    split
    · split
      · exact .none
      · rename_i x t e
        split
        · exact .some (((List.tail_suffix t).trans (h r x t e)).trans (suf_c c r))
        · exact .none
    · split
      · exact .some (suf_c c r)
      · split
        · exact .some (suf_c c r)
        · split
          · exact .some (suf_c c r)
          · split
            · exact ((suf_set r).map (fun q : Rng => setX q)).up (suf_c c r)
            · split
              · split
                · exact .none
                · rename_i d u
                  have hu := (suf_c d u).trans (suf_c c (d :: u))
                  split
                  · exact .some hu
                  · intro x t e
                    cases he : pEsc d with
                    | none => rw [he] at e; cases e
                    | some q => rw [he] at e; cases e; exact hu
              · split
                · exact .some (suf_c c r)
                · exact .none
theorem suf_item {alt : List UInt8 → Option (Rx × List UInt8)} (h : ∀ l, SufO (alt l) l) (l : List UInt8) : SufO (pItem alt l) l := by
  unfold pItem
  intro x t e
  cases ha : pAtom alt l with
  | none => rw [ha] at e; cases e
  | some p =>
    obtain ⟨y, u⟩ := p
    rw [ha] at e
    exact (suf_rep y u x t e).trans (suf_atom h l y u ha)
theorem suf_seqL {alt : List UInt8 → Option (Rx × List UInt8)} (h : ∀ l, SufO (alt l) l) : ∀ (n : Nat) (acc : List Rx) (l : List UInt8), SufO (pSeqL alt n acc l) l
  | 0, _, _ => .none
  | n + 1, acc, l => by
    rw [pSeqL]
    split
    · exact .some (List.suffix_refl _)
    · split
      · exact .none
      · rename_i x t e
        exact (suf_seqL h n _ t).up (suf_item h l x t e)
theorem suf_seq {alt : List UInt8 → Option (Rx × List UInt8)} (h : ∀ l, SufO (alt l) l) (l : List UInt8) : SufO (pSeq alt l) l := by
  unfold pSeq
  exact (suf_seqL h _ _ l).map (fun q : List Rx => oneX 2 q)
theorem suf_altL {alt : List UInt8 → Option (Rx × List UInt8)} (h : ∀ l, SufO (alt l) l) : ∀ (n : Nat) (acc : List Rx) (l : List UInt8), SufO (pAltL alt n acc l) l
  | 0, _, _ => .none
  | n + 1, acc, l => by
    rw [pAltL]
    split
    · split
      · exact .none
      · rename_i x t e
        exact (suf_altL h n _ t).up ((suf_seq h l.tail x t e).trans (List.tail_suffix l))
    · exact .some (List.suffix_refl _)
theorem suf_alt : ∀ (n : Nat) (l : List UInt8), SufO (pAlt n l) l
  | 0, _ => .none
  | n + 1, l => by
    rw [pAlt]
    intro x t e
    cases hs : pSeq (pAlt n) l with
    | none => rw [hs] at e; cases e
    | some p =>
      obtain ⟨y, u⟩ := p
      rw [hs] at e
      exact (((suf_altL (suf_alt n) _ _ u).map (fun q : List Rx => oneX 3 q)) x t e).trans (suf_seq (suf_alt n) l y u hs)
/-! ### places -/
/-- At this place stands this rest. -/
def At (L : List UInt8) (m : Nat) (cur : List UInt8) : Prop := ∃ pre, L = pre ++ cur ∧ m = pre.length
theorem At.len {L : List UInt8} {m : Nat} {cur : List UInt8} (h : At L m cur) : L.length = m + cur.length := by
  obtain ⟨pre, rfl, rfl⟩ := h
  exact List.length_append
theorem At.zero (L : List UInt8) : At L 0 L := ⟨[], rfl, rfl⟩
theorem At.of_le {L : List UInt8} {m : Nat} (h : m ≤ L.length) : At L m (L.drop m) := ⟨L.take m, (List.take_append_drop m L).symm, by rw [List.length_take]; omega⟩
theorem At.next {L : List UInt8} {m : Nat} {c : UInt8} {r : List UInt8} (h : At L m (c :: r)) : At L (m + 1) r := by
  obtain ⟨pre, rfl, rfl⟩ := h
  exact ⟨pre ++ [c], by simp, by simp⟩
theorem At.get {L : List UInt8} {m : Nat} {c : UInt8} {r : List UInt8} (h : At L m (c :: r)) : byI (mk L) (m : Int) = (c.toNat : Int) := by
  obtain ⟨pre, rfl, rfl⟩ := h
  rw [byI_mk]
  simp [List.getD]
theorem At.rest {L : List UInt8} {m : Nat} {cur : List UInt8} (h : At L m cur) : atS (mk L) (m : Int) = cur := by
  obtain ⟨pre, rfl, rfl⟩ := h
  unfold atS
  rw [bl_mk, Int.toNat_natCast, List.drop_left]
theorem At.rest1 {L : List UInt8} {m : Nat} {c : UInt8} {r : List UInt8} (h : At L m (c :: r)) : atS (mk L) ((m : Int) + 1) = r := h.next.rest
theorem At.suf {L : List UInt8} {m : Nat} {cur t : List UInt8} (h : At L m cur) (hs : t <:+ cur) : At L (L.length - t.length) t := by
  obtain ⟨pre, rfl, rfl⟩ := h
  obtain ⟨mid, rfl⟩ := hs
  exact ⟨pre ++ mid, by simp, by simp only [List.length_append]; omega⟩
theorem optE_at {α : Type} {x : α} {L : List UInt8} {m : Nat} {t : List UInt8} (h : At L m t) : optE L.length (some (x, t)) = (m : Int) := by
  have := h.len
  show (L.length : Int) - (t.length : Int) = m
  omega
theorem optE_none {α : Type} (n : Nat) : optE n (none : Option (α × List UInt8)) = -1 := rfl
theorem inS_at {L : List UInt8} {m : Nat} {cur : List UInt8} (h : At L m cur) (hl : L.length ≤ 1000) : inS (mk L) (m : Int) = true := by
  have := h.len
  unfold inS
  rw [size_mk, ev_blt hl, ev_le_t (by omega), ev_le_t (by omega)]; rfl
theorem inS1_at {L : List UInt8} {m : Nat} {c : UInt8} {r : List UInt8} (h : At L m (c :: r)) (hl : L.length ≤ 1000) : inS1 (mk L) (m : Int) = true := by
  have := h.len
  rw [List.length_cons] at this
  unfold inS1
  rw [size_mk, ev_blt hl, ev_le_t (by omega), ev_lt_t (by omega)]; rfl
theorem inS_of {L : List UInt8} {a : Int} (h : inS (mk L) a = true) : ∃ (m : Nat) (cur : List UInt8), a = (m : Int) ∧ At L m cur ∧ L.length ≤ 1000 := by
  unfold inS at h
  simp only [Bool.and_eq_true, size_mk] at h
  obtain ⟨h1, h2, h3⟩ := h
  have h1 := Nat.le_of_ble_eq_true h1
  have h2 := leI_t h2
  have h3 := leI_t h3
  exact ⟨a.toNat, _, by omega, At.of_le (by omega), h1⟩
theorem inS1_of {L : List UInt8} {a : Int} (h : inS1 (mk L) a = true) : ∃ (m : Nat) (c : UInt8) (r : List UInt8), a = (m : Int) ∧ At L m (c :: r) ∧ L.length ≤ 1000 := by
  unfold inS1 at h
  simp only [Bool.and_eq_true, size_mk] at h
  obtain ⟨h1, h2, h3⟩ := h
  have h1 := Nat.le_of_ble_eq_true h1
  have h2 := leI_t h2
  have h3 := ltI_t h3
  refine ⟨a.toNat, L.getD a.toNat 0, L.drop (a.toNat + 1), by omega, ?_, h1⟩
  rw [← drop_at 0 (by omega)]
  exact At.of_le (by omega)
theorem wp1 {m : Nat} (h : m ≤ 100000) : wrapI .i64 ((m : Int) + 1) = ((m + 1 : Nat) : Int) := by rw [w64 (by omega) (by omega)]; omega
theorem wp2 {m : Nat} (h : m ≤ 100000) : wrapI .i64 ((m : Int) + 2) = ((m + 2 : Nat) : Int) := by rw [w64 (by omega) (by omega)]; omega
theorem optX_some (x : Rx) (t : List UInt8) : optX (some (x, t)) = x := rfl
theorem optX_none : optX none = zeroX := rfl
theorem optR_some (x : Rng) (t : List UInt8) : optR (some (x, t)) = x := rfl
theorem optR_none : optR none = [] := rfl
theorem optI_some (x : Int) (t : List UInt8) : optI (some (x, t)) = x := rfl
theorem optM_some (x : Int × Int) (t : List UInt8) : optM (some (x, t)) = x := rfl
theorem beq_b (b c : UInt8) : (((b.toNat : Int)) == (c.toNat : Int)) = decide (b = c) := beq_u8 b c
theorem q36 (b : UInt8) : ((b.toNat : Int) == 36) = decide (b = 36) := beq_u8 b 36
theorem q40 (b : UInt8) : ((b.toNat : Int) == 40) = decide (b = 40) := beq_u8 b 40
theorem q42 (b : UInt8) : ((b.toNat : Int) == 42) = decide (b = 42) := beq_u8 b 42
theorem q43 (b : UInt8) : ((b.toNat : Int) == 43) = decide (b = 43) := beq_u8 b 43
theorem q45 (b : UInt8) : ((b.toNat : Int) == 45) = decide (b = 45) := beq_u8 b 45
theorem q46 (b : UInt8) : ((b.toNat : Int) == 46) = decide (b = 46) := beq_u8 b 46
theorem q48 (b : UInt8) : ((b.toNat : Int) == 48) = decide (b = 48) := beq_u8 b 48
theorem q63 (b : UInt8) : ((b.toNat : Int) == 63) = decide (b = 63) := beq_u8 b 63
theorem q91 (b : UInt8) : ((b.toNat : Int) == 91) = decide (b = 91) := beq_u8 b 91
theorem q92 (b : UInt8) : ((b.toNat : Int) == 92) = decide (b = 92) := beq_u8 b 92
theorem q94 (b : UInt8) : ((b.toNat : Int) == 94) = decide (b = 94) := beq_u8 b 94
theorem q98 (b : UInt8) : ((b.toNat : Int) == 98) = decide (b = 98) := beq_u8 b 98
theorem q100 (b : UInt8) : ((b.toNat : Int) == 100) = decide (b = 100) := beq_u8 b 100
theorem q110 (b : UInt8) : ((b.toNat : Int) == 110) = decide (b = 110) := beq_u8 b 110
theorem q116 (b : UInt8) : ((b.toNat : Int) == 116) = decide (b = 116) := beq_u8 b 116
theorem q119 (b : UInt8) : ((b.toNat : Int) == 119) = decide (b = 119) := beq_u8 b 119
theorem q123 (b : UInt8) : ((b.toNat : Int) == 123) = decide (b = 123) := beq_u8 b 123
theorem q125 (b : UInt8) : ((b.toNat : Int) == 125) = decide (b = 125) := beq_u8 b 125
theorem n41 (b : UInt8) : ((b.toNat : Int) != 41) = !decide (b = 41) := congrArg (! ·) (beq_u8 b 41)
theorem n44 (b : UInt8) : ((b.toNat : Int) != 44) = !decide (b = 44) := congrArg (! ·) (beq_u8 b 44)
theorem n93 (b : UInt8) : ((b.toNat : Int) != 93) = !decide (b = 93) := congrArg (! ·) (beq_u8 b 93)
theorem n124 (b : UInt8) : ((b.toNat : Int) != 124) = !decide (b = 124) := congrArg (! ·) (beq_u8 b 124)
theorem n125 (b : UInt8) : ((b.toNat : Int) != 125) = !decide (b = 125) := congrArg (! ·) (beq_u8 b 125)
theorem l32 (b : UInt8) : ltI (b.toNat : Int) 32 = decide (b < 32) := lt_u8 b 32
theorem l126 (b : UInt8) : ltI 126 (b.toNat : Int) = decide (126 < b) := lt_u8 126 b
theorem g48 (b : UInt8) : leI 48 (b.toNat : Int) = decide (48 ≤ b) := le_u8 48 b
theorem g57 (b : UInt8) : leI (b.toNat : Int) 57 = decide (b ≤ 57) := le_u8 b 57
end Go.Ab
namespace Go.Ab
open Go.Proofs
/-! codesearch/codesearchref08.inText -/
noncomputable def inText_q2 (s0 : ByteArray) (c1 : Int) (i5 : Int) : Req := .point 89 [] (todoAt Tryd.prog 89 2) ⟨[(.lf (.str s0)), (.lf (.int IntKind.u8 c1)), an, an, an, (.lf (.int IntKind.i64 i5)), an, an, an, an, an, an, an, an, an, an, an], []⟩
theorem inText_e (G : Req → R) (s0 : ByteArray) (c1 : Int) : runB (cfg []) G (.enter 89 [(.lf (.str (s0))), (.lf (.int IntKind.u8 (c1)))] []) =
  (G (inText_q2 s0 c1 0)) := by kernel_rfl
theorem inText_p2 (G : Req → R) (s0 : ByteArray) (c1 : Int) (i5 : Int) : runB (cfg []) G (inText_q2 s0 c1 i5) =
  (cond (ltI i5 (↑(ByteArray.size s0) : Int))
   (cond (leI 0 i5 && ltI i5 (↑(ByteArray.size s0) : Int))
    (cond (byI s0 i5 == c1)
     (some [(.bool (true))])
     (G (inText_q2 s0 c1 (wrapI IntKind.i64 (i5 + 1)))))
    none)
   (some [(.bool (false))])) := by kernel_rfl

/-! codesearch/codesearchref08.writable -/
theorem writable_e (G : Req → R) (c0 : Int) : runB (cfg []) G (.enter 74 [(.lf (.int IntKind.u8 (c0)))] []) =
  (cond (c0 == 9)
   (some [(.bool (true))])
   (cond (c0 == 10)
    (some [(.bool (true))])
    (cond (leI 32 c0)
     (some [(.bool (leI c0 126))])
     (some [(.bool (false))])))) := by kernel_rfl

/-! codesearch/codesearchref08.quoted -/
theorem quoted_e (G : Req → R) (c0 : Int) (escaped1 : ByteArray) : runB (cfg [k_inText]) G (.enter 75 [(.lf (.int IntKind.u8 (c0))), (.lf (.str (escaped1)))] []) =
  (cond (c0 == 9)
   (some [(.str (mk [92, 116]))])
   (cond (c0 == 10)
    (some [(.str (mk [92, 110]))])
    (cond (okB c0 && Nat.ble (ByteArray.size escaped1) 1000000)
     (cond (decide (u8 c0 ∈ bl escaped1))
      (some [(.str (mk [92] ++ ByteArray.mk (List.toArray (List.map (fun c => UInt8.ofNat (Int.toNat (cI 0 c))) [[L.int IntKind.u8 c0]]))))])
      (some [(.str (ByteArray.mk (List.toArray (List.map (fun c => UInt8.ofNat (Int.toNat (cI 0 c))) [[L.int IntKind.u8 c0]]))))]))
     none))) := by kernel_rfl

/-! codesearch/codesearchref08.ranges -/
noncomputable def rranges_q3 (l0 : List (List L)) (s4 : ByteArray) (i5 : Int) : Req := .point 76 [] (todoAt Tryd.prog 76 3) ⟨[(.lf (.lst 48 l0)), an, an, an, (.lf (.str s4)), (.lf (.int IntKind.i64 i5)), an, an, an, an, an, an, an, an, an, an, an, an, an, an, an, an, an, an, an, an, an, an, an, an, an, an, an, an, an, an, an, an, an, an, an, an, an, an, an, an, an, an, an, an, an, an, an, an, an, an, an], []⟩
theorem rranges_e (G : Req → R) (l0 : List (List L)) : runB (cfg [k_writable, k_quoted]) G (.enter 76 [(.lf (.lst 48 l0))] []) =
  (G (rranges_q3 l0 (mk []) 0)) := by kernel_rfl
theorem rranges_p3 (G : Req → R) (l0 : List (List L)) (s4 : ByteArray) (i5 : Int) : runB (cfg [k_writable, k_quoted]) G (rranges_q3 l0 s4 i5) =
  (cond (ltI i5 (↑(List.length l0) : Int))
   (cond (leI 0 i5 && ltI i5 (↑(List.length l0) : Int))
    (cond (okB (cI 0 (atL l0 i5)))
     (cond (!visB (u8 (cI 0 (atL l0 i5))))
      (some [(.str (mk [])), (.bool (false))])
      (cond (leI 0 i5 && ltI i5 (↑(List.length l0) : Int))
       (cond (okB (cI 1 (atL l0 i5)))
        (cond (!visB (u8 (cI 1 (atL l0 i5))))
         (some [(.str (mk [])), (.bool (false))])
         (cond (leI 0 i5 && ltI i5 (↑(List.length l0) : Int))
          (cond (okB (cI 0 (atL l0 i5)) && true)
           (cond (leI (↑(ByteArray.size s4 + ByteArray.size (mk (wrB (u8 (cI 0 (atL l0 i5))) (bl (mk [92, 91, 93, 94, 45]))))) : Int) (IntKind.max IntKind.i64))
            (cond (leI 0 i5 && ltI i5 (↑(List.length l0) : Int))
             (cond (leI 0 i5 && ltI i5 (↑(List.length l0) : Int))
              (cond (ltI (cI 0 (atL l0 i5)) (cI 1 (atL l0 i5)))
               (cond (leI (↑(ByteArray.size (s4 ++ mk (wrB (u8 (cI 0 (atL l0 i5))) (bl (mk [92, 91, 93, 94, 45])))) + 1) : Int) (IntKind.max IntKind.i64))
                (cond (leI 0 i5 && ltI i5 (↑(List.length l0) : Int))
                 (cond (okB (cI 1 (atL l0 i5)) && true)
                  (cond (leI (↑(ByteArray.size (s4 ++ mk (wrB (u8 (cI 0 (atL l0 i5))) (bl (mk [92, 91, 93, 94, 45]))) ++ mk [45]) + ByteArray.size (mk (wrB (u8 (cI 1 (atL l0 i5))) (bl (mk [92, 91, 93, 94, 45]))))) : Int) (IntKind.max IntKind.i64))
                   (G (rranges_q3 l0 (s4 ++ mk (wrB (u8 (cI 0 (atL l0 i5))) (bl (mk [92, 91, 93, 94, 45]))) ++ mk [45] ++ mk (wrB (u8 (cI 1 (atL l0 i5))) (bl (mk [92, 91, 93, 94, 45])))) (wrapI IntKind.i64 (i5 + 1))))
                   none)
                  none)
                 none)
                none)
               (G (rranges_q3 l0 (s4 ++ mk (wrB (u8 (cI 0 (atL l0 i5))) (bl (mk [92, 91, 93, 94, 45])))) (wrapI IntKind.i64 (i5 + 1)))))
              none)
             none)
            none)
           none)
          none))
        none)
       none))
     none)
    none)
   (some [(.str (s4)), (.bool (true))])) := by kernel_rfl

/-! codesearch/codesearchref08.ofSet -/
theorem ofSet_e (G : Req → R) (l0 : List (List L)) : runB (cfg [k_Ranges, k_sameSet, k_writable, k_quoted, k_rranges]) G (.enter 57 [(.lf (.lst 48 l0))] []) =
  (cond (isRs l0)
   (cond (isRs l0 && isRs (encRs (canR (fun j => !hasI (decRs l0) (↑j : Int) == false) 256)))
    (cond (!decide (decRs l0 = decRs (encRs (canR (fun j => !hasI (decRs l0) (↑j : Int) == false) 256))))
     (some [(.str (mk [])), (.bool (false))])
     (cond ((↑(List.length l0) : Int) == 1)
      (cond (ltI 0 (↑(List.length l0) : Int))
       (cond (ltI 0 (↑(List.length l0) : Int))
        (cond (cI 0 (atL l0 0) == cI 1 (atL l0 0))
         (cond (ltI 0 (↑(List.length l0) : Int))
          (cond (okB (cI 0 (atL l0 0)))
           (cond (visB (u8 (cI 0 (atL l0 0))))
            (cond (ltI 0 (↑(List.length l0) : Int))
             (cond (okB (cI 0 (atL l0 0)) && true)
              (some [(.str (mk (wrB (u8 (cI 0 (atL l0 0))) (bl (mk [92, 46, 42, 43, 63, 40, 41, 91, 93, 123, 125, 124, 94, 36]))))), (.bool (true))])
              none)
             none)
            (cond (isRs l0)
             (cond ((↑(List.length (encRs (canR (fun j => !hasI (decRs l0) (↑j : Int) == true) 256))) : Int) == 1)
              (cond (ltI 0 (↑(List.length (encRs (canR (fun j => !hasI (decRs l0) (↑j : Int) == true) 256))) : Int))
               (cond (cI 0 (atL (encRs (canR (fun j => !hasI (decRs l0) (↑j : Int) == true) 256)) 0) == 10)
                (cond (ltI 0 (↑(List.length (encRs (canR (fun j => !hasI (decRs l0) (↑j : Int) == true) 256))) : Int))
                 (cond (cI 1 (atL (encRs (canR (fun j => !hasI (decRs l0) (↑j : Int) == true) 256)) 0) == 10)
                  (some [(.str (mk [46])), (.bool (true))])
                  (cond (isRs l0)
                   (cond (Prod.snd (ranR (decRs l0)))
                    (cond (leI (↑(1 + ByteArray.size (mk (Prod.fst (ranR (decRs l0))))) : Int) (IntKind.max IntKind.i64))
                     (cond (leI (↑(ByteArray.size (mk [91] ++ mk (Prod.fst (ranR (decRs l0)))) + 1) : Int) (IntKind.max IntKind.i64))
                      (some [(.str (mk [91] ++ mk (Prod.fst (ranR (decRs l0))) ++ mk [93])), (.bool (true))])
                      none)
                     none)
                    (cond (isRs (encRs (canR (fun j => !hasI (decRs l0) (↑j : Int) == true) 256)))
                     (cond (Prod.snd (ranR (decRs (encRs (canR (fun j => !hasI (decRs l0) (↑j : Int) == true) 256)))))
                      (cond (ltI 0 (↑(List.length (encRs (canR (fun j => !hasI (decRs l0) (↑j : Int) == true) 256))) : Int))
                       (cond (leI (↑(2 + ByteArray.size (mk (Prod.fst (ranR (decRs (encRs (canR (fun j => !hasI (decRs l0) (↑j : Int) == true) 256))))))) : Int) (IntKind.max IntKind.i64))
                        (cond (leI (↑(ByteArray.size (mk [91, 94] ++ mk (Prod.fst (ranR (decRs (encRs (canR (fun j => !hasI (decRs l0) (↑j : Int) == true) 256)))))) + 1) : Int) (IntKind.max IntKind.i64))
                         (some [(.str (mk [91, 94] ++ mk (Prod.fst (ranR (decRs (encRs (canR (fun j => !hasI (decRs l0) (↑j : Int) == true) 256))))) ++ mk [93])), (.bool (true))])
                         none)
                        none)
                       (some [(.str (mk [])), (.bool (false))]))
                      (some [(.str (mk [])), (.bool (false))]))
                     none))
                   none))
                 none)
                (cond (isRs l0)
                 (cond (Prod.snd (ranR (decRs l0)))
                  (cond (leI (↑(1 + ByteArray.size (mk (Prod.fst (ranR (decRs l0))))) : Int) (IntKind.max IntKind.i64))
                   (cond (leI (↑(ByteArray.size (mk [91] ++ mk (Prod.fst (ranR (decRs l0)))) + 1) : Int) (IntKind.max IntKind.i64))
                    (some [(.str (mk [91] ++ mk (Prod.fst (ranR (decRs l0))) ++ mk [93])), (.bool (true))])
                    none)
                   none)
                  (cond (isRs (encRs (canR (fun j => !hasI (decRs l0) (↑j : Int) == true) 256)))
                   (cond (Prod.snd (ranR (decRs (encRs (canR (fun j => !hasI (decRs l0) (↑j : Int) == true) 256)))))
                    (cond (ltI 0 (↑(List.length (encRs (canR (fun j => !hasI (decRs l0) (↑j : Int) == true) 256))) : Int))
                     (cond (leI (↑(2 + ByteArray.size (mk (Prod.fst (ranR (decRs (encRs (canR (fun j => !hasI (decRs l0) (↑j : Int) == true) 256))))))) : Int) (IntKind.max IntKind.i64))
                      (cond (leI (↑(ByteArray.size (mk [91, 94] ++ mk (Prod.fst (ranR (decRs (encRs (canR (fun j => !hasI (decRs l0) (↑j : Int) == true) 256)))))) + 1) : Int) (IntKind.max IntKind.i64))
                       (some [(.str (mk [91, 94] ++ mk (Prod.fst (ranR (decRs (encRs (canR (fun j => !hasI (decRs l0) (↑j : Int) == true) 256))))) ++ mk [93])), (.bool (true))])
                       none)
                      none)
                     (some [(.str (mk [])), (.bool (false))]))
                    (some [(.str (mk [])), (.bool (false))]))
                   none))
                 none))
               none)
              (cond (isRs l0)
               (cond (Prod.snd (ranR (decRs l0)))
                (cond (leI (↑(1 + ByteArray.size (mk (Prod.fst (ranR (decRs l0))))) : Int) (IntKind.max IntKind.i64))
                 (cond (leI (↑(ByteArray.size (mk [91] ++ mk (Prod.fst (ranR (decRs l0)))) + 1) : Int) (IntKind.max IntKind.i64))
                  (some [(.str (mk [91] ++ mk (Prod.fst (ranR (decRs l0))) ++ mk [93])), (.bool (true))])
                  none)
                 none)
                (cond (isRs (encRs (canR (fun j => !hasI (decRs l0) (↑j : Int) == true) 256)))
                 (cond (Prod.snd (ranR (decRs (encRs (canR (fun j => !hasI (decRs l0) (↑j : Int) == true) 256)))))
                  (cond (ltI 0 (↑(List.length (encRs (canR (fun j => !hasI (decRs l0) (↑j : Int) == true) 256))) : Int))
                   (cond (leI (↑(2 + ByteArray.size (mk (Prod.fst (ranR (decRs (encRs (canR (fun j => !hasI (decRs l0) (↑j : Int) == true) 256))))))) : Int) (IntKind.max IntKind.i64))
                    (cond (leI (↑(ByteArray.size (mk [91, 94] ++ mk (Prod.fst (ranR (decRs (encRs (canR (fun j => !hasI (decRs l0) (↑j : Int) == true) 256)))))) + 1) : Int) (IntKind.max IntKind.i64))
                     (some [(.str (mk [91, 94] ++ mk (Prod.fst (ranR (decRs (encRs (canR (fun j => !hasI (decRs l0) (↑j : Int) == true) 256))))) ++ mk [93])), (.bool (true))])
                     none)
                    none)
                   (some [(.str (mk [])), (.bool (false))]))
                  (some [(.str (mk [])), (.bool (false))]))
                 none))
               none))
             none))
           none)
          none)
         (cond (isRs l0)
          (cond ((↑(List.length (encRs (canR (fun j => !hasI (decRs l0) (↑j : Int) == true) 256))) : Int) == 1)
           (cond (ltI 0 (↑(List.length (encRs (canR (fun j => !hasI (decRs l0) (↑j : Int) == true) 256))) : Int))
            (cond (cI 0 (atL (encRs (canR (fun j => !hasI (decRs l0) (↑j : Int) == true) 256)) 0) == 10)
             (cond (ltI 0 (↑(List.length (encRs (canR (fun j => !hasI (decRs l0) (↑j : Int) == true) 256))) : Int))
              (cond (cI 1 (atL (encRs (canR (fun j => !hasI (decRs l0) (↑j : Int) == true) 256)) 0) == 10)
               (some [(.str (mk [46])), (.bool (true))])
               (cond (isRs l0)
                (cond (Prod.snd (ranR (decRs l0)))
                 (cond (leI (↑(1 + ByteArray.size (mk (Prod.fst (ranR (decRs l0))))) : Int) (IntKind.max IntKind.i64))
                  (cond (leI (↑(ByteArray.size (mk [91] ++ mk (Prod.fst (ranR (decRs l0)))) + 1) : Int) (IntKind.max IntKind.i64))
                   (some [(.str (mk [91] ++ mk (Prod.fst (ranR (decRs l0))) ++ mk [93])), (.bool (true))])
                   none)
                  none)
                 (cond (isRs (encRs (canR (fun j => !hasI (decRs l0) (↑j : Int) == true) 256)))
                  (cond (Prod.snd (ranR (decRs (encRs (canR (fun j => !hasI (decRs l0) (↑j : Int) == true) 256)))))
                   (cond (ltI 0 (↑(List.length (encRs (canR (fun j => !hasI (decRs l0) (↑j : Int) == true) 256))) : Int))
                    (cond (leI (↑(2 + ByteArray.size (mk (Prod.fst (ranR (decRs (encRs (canR (fun j => !hasI (decRs l0) (↑j : Int) == true) 256))))))) : Int) (IntKind.max IntKind.i64))
                     (cond (leI (↑(ByteArray.size (mk [91, 94] ++ mk (Prod.fst (ranR (decRs (encRs (canR (fun j => !hasI (decRs l0) (↑j : Int) == true) 256)))))) + 1) : Int) (IntKind.max IntKind.i64))
                      (some [(.str (mk [91, 94] ++ mk (Prod.fst (ranR (decRs (encRs (canR (fun j => !hasI (decRs l0) (↑j : Int) == true) 256))))) ++ mk [93])), (.bool (true))])
                      none)
                     none)
                    (some [(.str (mk [])), (.bool (false))]))
                   (some [(.str (mk [])), (.bool (false))]))
                  none))
                none))
              none)
             (cond (isRs l0)
              (cond (Prod.snd (ranR (decRs l0)))
               (cond (leI (↑(1 + ByteArray.size (mk (Prod.fst (ranR (decRs l0))))) : Int) (IntKind.max IntKind.i64))
                (cond (leI (↑(ByteArray.size (mk [91] ++ mk (Prod.fst (ranR (decRs l0)))) + 1) : Int) (IntKind.max IntKind.i64))
                 (some [(.str (mk [91] ++ mk (Prod.fst (ranR (decRs l0))) ++ mk [93])), (.bool (true))])
                 none)
                none)
               (cond (isRs (encRs (canR (fun j => !hasI (decRs l0) (↑j : Int) == true) 256)))
                (cond (Prod.snd (ranR (decRs (encRs (canR (fun j => !hasI (decRs l0) (↑j : Int) == true) 256)))))
                 (cond (ltI 0 (↑(List.length (encRs (canR (fun j => !hasI (decRs l0) (↑j : Int) == true) 256))) : Int))
                  (cond (leI (↑(2 + ByteArray.size (mk (Prod.fst (ranR (decRs (encRs (canR (fun j => !hasI (decRs l0) (↑j : Int) == true) 256))))))) : Int) (IntKind.max IntKind.i64))
                   (cond (leI (↑(ByteArray.size (mk [91, 94] ++ mk (Prod.fst (ranR (decRs (encRs (canR (fun j => !hasI (decRs l0) (↑j : Int) == true) 256)))))) + 1) : Int) (IntKind.max IntKind.i64))
                    (some [(.str (mk [91, 94] ++ mk (Prod.fst (ranR (decRs (encRs (canR (fun j => !hasI (decRs l0) (↑j : Int) == true) 256))))) ++ mk [93])), (.bool (true))])
                    none)
                   none)
                  (some [(.str (mk [])), (.bool (false))]))
                 (some [(.str (mk [])), (.bool (false))]))
                none))
              none))
            none)
           (cond (isRs l0)
            (cond (Prod.snd (ranR (decRs l0)))
             (cond (leI (↑(1 + ByteArray.size (mk (Prod.fst (ranR (decRs l0))))) : Int) (IntKind.max IntKind.i64))
              (cond (leI (↑(ByteArray.size (mk [91] ++ mk (Prod.fst (ranR (decRs l0)))) + 1) : Int) (IntKind.max IntKind.i64))
               (some [(.str (mk [91] ++ mk (Prod.fst (ranR (decRs l0))) ++ mk [93])), (.bool (true))])
               none)
              none)
             (cond (isRs (encRs (canR (fun j => !hasI (decRs l0) (↑j : Int) == true) 256)))
              (cond (Prod.snd (ranR (decRs (encRs (canR (fun j => !hasI (decRs l0) (↑j : Int) == true) 256)))))
               (cond (ltI 0 (↑(List.length (encRs (canR (fun j => !hasI (decRs l0) (↑j : Int) == true) 256))) : Int))
                (cond (leI (↑(2 + ByteArray.size (mk (Prod.fst (ranR (decRs (encRs (canR (fun j => !hasI (decRs l0) (↑j : Int) == true) 256))))))) : Int) (IntKind.max IntKind.i64))
                 (cond (leI (↑(ByteArray.size (mk [91, 94] ++ mk (Prod.fst (ranR (decRs (encRs (canR (fun j => !hasI (decRs l0) (↑j : Int) == true) 256)))))) + 1) : Int) (IntKind.max IntKind.i64))
                  (some [(.str (mk [91, 94] ++ mk (Prod.fst (ranR (decRs (encRs (canR (fun j => !hasI (decRs l0) (↑j : Int) == true) 256))))) ++ mk [93])), (.bool (true))])
                  none)
                 none)
                (some [(.str (mk [])), (.bool (false))]))
               (some [(.str (mk [])), (.bool (false))]))
              none))
            none))
          none))
        none)
       none)
      (cond (isRs l0)
       (cond ((↑(List.length (encRs (canR (fun j => !hasI (decRs l0) (↑j : Int) == true) 256))) : Int) == 1)
        (cond (ltI 0 (↑(List.length (encRs (canR (fun j => !hasI (decRs l0) (↑j : Int) == true) 256))) : Int))
         (cond (cI 0 (atL (encRs (canR (fun j => !hasI (decRs l0) (↑j : Int) == true) 256)) 0) == 10)
          (cond (ltI 0 (↑(List.length (encRs (canR (fun j => !hasI (decRs l0) (↑j : Int) == true) 256))) : Int))
           (cond (cI 1 (atL (encRs (canR (fun j => !hasI (decRs l0) (↑j : Int) == true) 256)) 0) == 10)
            (some [(.str (mk [46])), (.bool (true))])
            (cond (isRs l0)
             (cond (Prod.snd (ranR (decRs l0)))
              (cond (leI (↑(1 + ByteArray.size (mk (Prod.fst (ranR (decRs l0))))) : Int) (IntKind.max IntKind.i64))
               (cond (leI (↑(ByteArray.size (mk [91] ++ mk (Prod.fst (ranR (decRs l0)))) + 1) : Int) (IntKind.max IntKind.i64))
                (some [(.str (mk [91] ++ mk (Prod.fst (ranR (decRs l0))) ++ mk [93])), (.bool (true))])
                none)
               none)
              (cond (isRs (encRs (canR (fun j => !hasI (decRs l0) (↑j : Int) == true) 256)))
               (cond (Prod.snd (ranR (decRs (encRs (canR (fun j => !hasI (decRs l0) (↑j : Int) == true) 256)))))
                (cond (ltI 0 (↑(List.length (encRs (canR (fun j => !hasI (decRs l0) (↑j : Int) == true) 256))) : Int))
                 (cond (leI (↑(2 + ByteArray.size (mk (Prod.fst (ranR (decRs (encRs (canR (fun j => !hasI (decRs l0) (↑j : Int) == true) 256))))))) : Int) (IntKind.max IntKind.i64))
                  (cond (leI (↑(ByteArray.size (mk [91, 94] ++ mk (Prod.fst (ranR (decRs (encRs (canR (fun j => !hasI (decRs l0) (↑j : Int) == true) 256)))))) + 1) : Int) (IntKind.max IntKind.i64))
                   (some [(.str (mk [91, 94] ++ mk (Prod.fst (ranR (decRs (encRs (canR (fun j => !hasI (decRs l0) (↑j : Int) == true) 256))))) ++ mk [93])), (.bool (true))])
                   none)
                  none)
                 (some [(.str (mk [])), (.bool (false))]))
                (some [(.str (mk [])), (.bool (false))]))
               none))
             none))
           none)
          (cond (isRs l0)
           (cond (Prod.snd (ranR (decRs l0)))
            (cond (leI (↑(1 + ByteArray.size (mk (Prod.fst (ranR (decRs l0))))) : Int) (IntKind.max IntKind.i64))
             (cond (leI (↑(ByteArray.size (mk [91] ++ mk (Prod.fst (ranR (decRs l0)))) + 1) : Int) (IntKind.max IntKind.i64))
              (some [(.str (mk [91] ++ mk (Prod.fst (ranR (decRs l0))) ++ mk [93])), (.bool (true))])
              none)
             none)
            (cond (isRs (encRs (canR (fun j => !hasI (decRs l0) (↑j : Int) == true) 256)))
             (cond (Prod.snd (ranR (decRs (encRs (canR (fun j => !hasI (decRs l0) (↑j : Int) == true) 256)))))
              (cond (ltI 0 (↑(List.length (encRs (canR (fun j => !hasI (decRs l0) (↑j : Int) == true) 256))) : Int))
               (cond (leI (↑(2 + ByteArray.size (mk (Prod.fst (ranR (decRs (encRs (canR (fun j => !hasI (decRs l0) (↑j : Int) == true) 256))))))) : Int) (IntKind.max IntKind.i64))
                (cond (leI (↑(ByteArray.size (mk [91, 94] ++ mk (Prod.fst (ranR (decRs (encRs (canR (fun j => !hasI (decRs l0) (↑j : Int) == true) 256)))))) + 1) : Int) (IntKind.max IntKind.i64))
                 (some [(.str (mk [91, 94] ++ mk (Prod.fst (ranR (decRs (encRs (canR (fun j => !hasI (decRs l0) (↑j : Int) == true) 256))))) ++ mk [93])), (.bool (true))])
                 none)
                none)
               (some [(.str (mk [])), (.bool (false))]))
              (some [(.str (mk [])), (.bool (false))]))
             none))
           none))
         none)
        (cond (isRs l0)
         (cond (Prod.snd (ranR (decRs l0)))
          (cond (leI (↑(1 + ByteArray.size (mk (Prod.fst (ranR (decRs l0))))) : Int) (IntKind.max IntKind.i64))
           (cond (leI (↑(ByteArray.size (mk [91] ++ mk (Prod.fst (ranR (decRs l0)))) + 1) : Int) (IntKind.max IntKind.i64))
            (some [(.str (mk [91] ++ mk (Prod.fst (ranR (decRs l0))) ++ mk [93])), (.bool (true))])
            none)
           none)
          (cond (isRs (encRs (canR (fun j => !hasI (decRs l0) (↑j : Int) == true) 256)))
           (cond (Prod.snd (ranR (decRs (encRs (canR (fun j => !hasI (decRs l0) (↑j : Int) == true) 256)))))
            (cond (ltI 0 (↑(List.length (encRs (canR (fun j => !hasI (decRs l0) (↑j : Int) == true) 256))) : Int))
             (cond (leI (↑(2 + ByteArray.size (mk (Prod.fst (ranR (decRs (encRs (canR (fun j => !hasI (decRs l0) (↑j : Int) == true) 256))))))) : Int) (IntKind.max IntKind.i64))
              (cond (leI (↑(ByteArray.size (mk [91, 94] ++ mk (Prod.fst (ranR (decRs (encRs (canR (fun j => !hasI (decRs l0) (↑j : Int) == true) 256)))))) + 1) : Int) (IntKind.max IntKind.i64))
               (some [(.str (mk [91, 94] ++ mk (Prod.fst (ranR (decRs (encRs (canR (fun j => !hasI (decRs l0) (↑j : Int) == true) 256))))) ++ mk [93])), (.bool (true))])
               none)
              none)
             (some [(.str (mk [])), (.bool (false))]))
            (some [(.str (mk [])), (.bool (false))]))
           none))
         none))
       none)))
    none)
   none) := by kernel_rfl

/-! codesearch/codesearchref08.digits -/
theorem digits_e (G : Req → R) (n0 : Int) : runB (cfg []) G (.enter 77 [(.lf (.int IntKind.i64 (n0)))] []) =
  (cond (leI 10 n0)
   (some [(.str (ByteArray.mk (List.toArray (List.map (fun c => UInt8.ofNat (Int.toNat (cI 0 c))) [[L.int IntKind.u8 (wrapI IntKind.u8 (wrapI IntKind.i64 (48 + Int.tmod (IntKind.wrap IntKind.i64 (Int.tdiv n0 10)) 10)))], [L.int IntKind.u8 (wrapI IntKind.u8 (wrapI IntKind.i64 (48 + Int.tmod n0 10)))]]))))])
   (some [(.str (ByteArray.mk (List.toArray (List.map (fun c => UInt8.ofNat (Int.toNat (cI 0 c))) [[L.int IntKind.u8 (wrapI IntKind.u8 (wrapI IntKind.i64 (48 + n0)))]]))))])) := by kernel_rfl

/-! codesearch/codesearchref08.suffix -/
theorem suffix_e (G : Req → R) (min0 : Int) (max1 : Int) : runB (cfg [k_digits]) G (.enter 59 [(.lf (.int IntKind.i64 (min0))), (.lf (.int IntKind.i64 (max1)))] []) =
  (cond (min0 == 0)
   (cond (max1 == -1)
    (some [(.str (mk [42]))])
    (cond (min0 == 1)
     (cond (max1 == -1)
      (some [(.str (mk [43]))])
      (cond (min0 == 0)
       (cond (max1 == 1)
        (some [(.str (mk [63]))])
        (cond (max1 == min0)
         (cond (leI 0 min0 && leI min0 99)
          (cond (leI (↑(1 + ByteArray.size (mk (decN min0))) : Int) (IntKind.max IntKind.i64))
           (cond (leI (↑(ByteArray.size (mk [123] ++ mk (decN min0)) + 1) : Int) (IntKind.max IntKind.i64))
            (some [(.str (mk [123] ++ mk (decN min0) ++ mk [125]))])
            none)
           none)
          none)
         (cond (max1 == -1)
          (cond (leI 0 min0 && leI min0 99)
           (cond (leI (↑(1 + ByteArray.size (mk (decN min0))) : Int) (IntKind.max IntKind.i64))
            (cond (leI (↑(ByteArray.size (mk [123] ++ mk (decN min0)) + 2) : Int) (IntKind.max IntKind.i64))
             (some [(.str (mk [123] ++ mk (decN min0) ++ mk [44, 125]))])
             none)
            none)
           none)
          (cond (leI 0 min0 && leI min0 99)
           (cond (leI (↑(1 + ByteArray.size (mk (decN min0))) : Int) (IntKind.max IntKind.i64))
            (cond (leI (↑(ByteArray.size (mk [123] ++ mk (decN min0)) + 1) : Int) (IntKind.max IntKind.i64))
             (cond (leI 0 max1 && leI max1 99)
              (cond (leI (↑(ByteArray.size (mk [123] ++ mk (decN min0) ++ mk [44]) + ByteArray.size (mk (decN max1))) : Int) (IntKind.max IntKind.i64))
               (cond (leI (↑(ByteArray.size (mk [123] ++ mk (decN min0) ++ mk [44] ++ mk (decN max1)) + 1) : Int) (IntKind.max IntKind.i64))
                (some [(.str (mk [123] ++ mk (decN min0) ++ mk [44] ++ mk (decN max1) ++ mk [125]))])
                none)
               none)
              none)
             none)
            none)
           none))))
       (cond (max1 == min0)
        (cond (leI 0 min0 && leI min0 99)
         (cond (leI (↑(1 + ByteArray.size (mk (decN min0))) : Int) (IntKind.max IntKind.i64))
          (cond (leI (↑(ByteArray.size (mk [123] ++ mk (decN min0)) + 1) : Int) (IntKind.max IntKind.i64))
           (some [(.str (mk [123] ++ mk (decN min0) ++ mk [125]))])
           none)
          none)
         none)
        (cond (max1 == -1)
         (cond (leI 0 min0 && leI min0 99)
          (cond (leI (↑(1 + ByteArray.size (mk (decN min0))) : Int) (IntKind.max IntKind.i64))
           (cond (leI (↑(ByteArray.size (mk [123] ++ mk (decN min0)) + 2) : Int) (IntKind.max IntKind.i64))
            (some [(.str (mk [123] ++ mk (decN min0) ++ mk [44, 125]))])
            none)
           none)
          none)
         (cond (leI 0 min0 && leI min0 99)
          (cond (leI (↑(1 + ByteArray.size (mk (decN min0))) : Int) (IntKind.max IntKind.i64))
           (cond (leI (↑(ByteArray.size (mk [123] ++ mk (decN min0)) + 1) : Int) (IntKind.max IntKind.i64))
            (cond (leI 0 max1 && leI max1 99)
             (cond (leI (↑(ByteArray.size (mk [123] ++ mk (decN min0) ++ mk [44]) + ByteArray.size (mk (decN max1))) : Int) (IntKind.max IntKind.i64))
              (cond (leI (↑(ByteArray.size (mk [123] ++ mk (decN min0) ++ mk [44] ++ mk (decN max1)) + 1) : Int) (IntKind.max IntKind.i64))
               (some [(.str (mk [123] ++ mk (decN min0) ++ mk [44] ++ mk (decN max1) ++ mk [125]))])
               none)
              none)
             none)
            none)
           none)
          none)))))
     (cond (min0 == 0)
      (cond (max1 == 1)
       (some [(.str (mk [63]))])
       (cond (max1 == min0)
        (cond (leI 0 min0 && leI min0 99)
         (cond (leI (↑(1 + ByteArray.size (mk (decN min0))) : Int) (IntKind.max IntKind.i64))
          (cond (leI (↑(ByteArray.size (mk [123] ++ mk (decN min0)) + 1) : Int) (IntKind.max IntKind.i64))
           (some [(.str (mk [123] ++ mk (decN min0) ++ mk [125]))])
           none)
          none)
         none)
        (cond (max1 == -1)
         (cond (leI 0 min0 && leI min0 99)
          (cond (leI (↑(1 + ByteArray.size (mk (decN min0))) : Int) (IntKind.max IntKind.i64))
           (cond (leI (↑(ByteArray.size (mk [123] ++ mk (decN min0)) + 2) : Int) (IntKind.max IntKind.i64))
            (some [(.str (mk [123] ++ mk (decN min0) ++ mk [44, 125]))])
            none)
           none)
          none)
         (cond (leI 0 min0 && leI min0 99)
          (cond (leI (↑(1 + ByteArray.size (mk (decN min0))) : Int) (IntKind.max IntKind.i64))
           (cond (leI (↑(ByteArray.size (mk [123] ++ mk (decN min0)) + 1) : Int) (IntKind.max IntKind.i64))
            (cond (leI 0 max1 && leI max1 99)
             (cond (leI (↑(ByteArray.size (mk [123] ++ mk (decN min0) ++ mk [44]) + ByteArray.size (mk (decN max1))) : Int) (IntKind.max IntKind.i64))
              (cond (leI (↑(ByteArray.size (mk [123] ++ mk (decN min0) ++ mk [44] ++ mk (decN max1)) + 1) : Int) (IntKind.max IntKind.i64))
               (some [(.str (mk [123] ++ mk (decN min0) ++ mk [44] ++ mk (decN max1) ++ mk [125]))])
               none)
              none)
             none)
            none)
           none)
          none))))
      (cond (max1 == min0)
       (cond (leI 0 min0 && leI min0 99)
        (cond (leI (↑(1 + ByteArray.size (mk (decN min0))) : Int) (IntKind.max IntKind.i64))
         (cond (leI (↑(ByteArray.size (mk [123] ++ mk (decN min0)) + 1) : Int) (IntKind.max IntKind.i64))
          (some [(.str (mk [123] ++ mk (decN min0) ++ mk [125]))])
          none)
         none)
        none)
       (cond (max1 == -1)
        (cond (leI 0 min0 && leI min0 99)
         (cond (leI (↑(1 + ByteArray.size (mk (decN min0))) : Int) (IntKind.max IntKind.i64))
          (cond (leI (↑(ByteArray.size (mk [123] ++ mk (decN min0)) + 2) : Int) (IntKind.max IntKind.i64))
           (some [(.str (mk [123] ++ mk (decN min0) ++ mk [44, 125]))])
           none)
          none)
         none)
        (cond (leI 0 min0 && leI min0 99)
         (cond (leI (↑(1 + ByteArray.size (mk (decN min0))) : Int) (IntKind.max IntKind.i64))
          (cond (leI (↑(ByteArray.size (mk [123] ++ mk (decN min0)) + 1) : Int) (IntKind.max IntKind.i64))
           (cond (leI 0 max1 && leI max1 99)
            (cond (leI (↑(ByteArray.size (mk [123] ++ mk (decN min0) ++ mk [44]) + ByteArray.size (mk (decN max1))) : Int) (IntKind.max IntKind.i64))
             (cond (leI (↑(ByteArray.size (mk [123] ++ mk (decN min0) ++ mk [44] ++ mk (decN max1)) + 1) : Int) (IntKind.max IntKind.i64))
              (some [(.str (mk [123] ++ mk (decN min0) ++ mk [44] ++ mk (decN max1) ++ mk [125]))])
              none)
             none)
            none)
           none)
          none)
         none))))))
   (cond (min0 == 1)
    (cond (max1 == -1)
     (some [(.str (mk [43]))])
     (cond (min0 == 0)
      (cond (max1 == 1)
       (some [(.str (mk [63]))])
       (cond (max1 == min0)
        (cond (leI 0 min0 && leI min0 99)
         (cond (leI (↑(1 + ByteArray.size (mk (decN min0))) : Int) (IntKind.max IntKind.i64))
          (cond (leI (↑(ByteArray.size (mk [123] ++ mk (decN min0)) + 1) : Int) (IntKind.max IntKind.i64))
           (some [(.str (mk [123] ++ mk (decN min0) ++ mk [125]))])
           none)
          none)
         none)
        (cond (max1 == -1)
         (cond (leI 0 min0 && leI min0 99)
          (cond (leI (↑(1 + ByteArray.size (mk (decN min0))) : Int) (IntKind.max IntKind.i64))
           (cond (leI (↑(ByteArray.size (mk [123] ++ mk (decN min0)) + 2) : Int) (IntKind.max IntKind.i64))
            (some [(.str (mk [123] ++ mk (decN min0) ++ mk [44, 125]))])
            none)
           none)
          none)
         (cond (leI 0 min0 && leI min0 99)
          (cond (leI (↑(1 + ByteArray.size (mk (decN min0))) : Int) (IntKind.max IntKind.i64))
           (cond (leI (↑(ByteArray.size (mk [123] ++ mk (decN min0)) + 1) : Int) (IntKind.max IntKind.i64))
            (cond (leI 0 max1 && leI max1 99)
             (cond (leI (↑(ByteArray.size (mk [123] ++ mk (decN min0) ++ mk [44]) + ByteArray.size (mk (decN max1))) : Int) (IntKind.max IntKind.i64))
              (cond (leI (↑(ByteArray.size (mk [123] ++ mk (decN min0) ++ mk [44] ++ mk (decN max1)) + 1) : Int) (IntKind.max IntKind.i64))
               (some [(.str (mk [123] ++ mk (decN min0) ++ mk [44] ++ mk (decN max1) ++ mk [125]))])
               none)
              none)
             none)
            none)
           none)
          none))))
      (cond (max1 == min0)
       (cond (leI 0 min0 && leI min0 99)
        (cond (leI (↑(1 + ByteArray.size (mk (decN min0))) : Int) (IntKind.max IntKind.i64))
         (cond (leI (↑(ByteArray.size (mk [123] ++ mk (decN min0)) + 1) : Int) (IntKind.max IntKind.i64))
          (some [(.str (mk [123] ++ mk (decN min0) ++ mk [125]))])
          none)
         none)
        none)
       (cond (max1 == -1)
        (cond (leI 0 min0 && leI min0 99)
         (cond (leI (↑(1 + ByteArray.size (mk (decN min0))) : Int) (IntKind.max IntKind.i64))
          (cond (leI (↑(ByteArray.size (mk [123] ++ mk (decN min0)) + 2) : Int) (IntKind.max IntKind.i64))
           (some [(.str (mk [123] ++ mk (decN min0) ++ mk [44, 125]))])
           none)
          none)
         none)
        (cond (leI 0 min0 && leI min0 99)
         (cond (leI (↑(1 + ByteArray.size (mk (decN min0))) : Int) (IntKind.max IntKind.i64))
          (cond (leI (↑(ByteArray.size (mk [123] ++ mk (decN min0)) + 1) : Int) (IntKind.max IntKind.i64))
           (cond (leI 0 max1 && leI max1 99)
            (cond (leI (↑(ByteArray.size (mk [123] ++ mk (decN min0) ++ mk [44]) + ByteArray.size (mk (decN max1))) : Int) (IntKind.max IntKind.i64))
             (cond (leI (↑(ByteArray.size (mk [123] ++ mk (decN min0) ++ mk [44] ++ mk (decN max1)) + 1) : Int) (IntKind.max IntKind.i64))
              (some [(.str (mk [123] ++ mk (decN min0) ++ mk [44] ++ mk (decN max1) ++ mk [125]))])
              none)
             none)
            none)
           none)
          none)
         none)))))
    (cond (min0 == 0)
     (cond (max1 == 1)
      (some [(.str (mk [63]))])
      (cond (max1 == min0)
       (cond (leI 0 min0 && leI min0 99)
        (cond (leI (↑(1 + ByteArray.size (mk (decN min0))) : Int) (IntKind.max IntKind.i64))
         (cond (leI (↑(ByteArray.size (mk [123] ++ mk (decN min0)) + 1) : Int) (IntKind.max IntKind.i64))
          (some [(.str (mk [123] ++ mk (decN min0) ++ mk [125]))])
          none)
         none)
        none)
       (cond (max1 == -1)
        (cond (leI 0 min0 && leI min0 99)
         (cond (leI (↑(1 + ByteArray.size (mk (decN min0))) : Int) (IntKind.max IntKind.i64))
          (cond (leI (↑(ByteArray.size (mk [123] ++ mk (decN min0)) + 2) : Int) (IntKind.max IntKind.i64))
           (some [(.str (mk [123] ++ mk (decN min0) ++ mk [44, 125]))])
           none)
          none)
         none)
        (cond (leI 0 min0 && leI min0 99)
         (cond (leI (↑(1 + ByteArray.size (mk (decN min0))) : Int) (IntKind.max IntKind.i64))
          (cond (leI (↑(ByteArray.size (mk [123] ++ mk (decN min0)) + 1) : Int) (IntKind.max IntKind.i64))
           (cond (leI 0 max1 && leI max1 99)
            (cond (leI (↑(ByteArray.size (mk [123] ++ mk (decN min0) ++ mk [44]) + ByteArray.size (mk (decN max1))) : Int) (IntKind.max IntKind.i64))
             (cond (leI (↑(ByteArray.size (mk [123] ++ mk (decN min0) ++ mk [44] ++ mk (decN max1)) + 1) : Int) (IntKind.max IntKind.i64))
              (some [(.str (mk [123] ++ mk (decN min0) ++ mk [44] ++ mk (decN max1) ++ mk [125]))])
              none)
             none)
            none)
           none)
          none)
         none))))
     (cond (max1 == min0)
      (cond (leI 0 min0 && leI min0 99)
       (cond (leI (↑(1 + ByteArray.size (mk (decN min0))) : Int) (IntKind.max IntKind.i64))
        (cond (leI (↑(ByteArray.size (mk [123] ++ mk (decN min0)) + 1) : Int) (IntKind.max IntKind.i64))
         (some [(.str (mk [123] ++ mk (decN min0) ++ mk [125]))])
         none)
        none)
       none)
      (cond (max1 == -1)
       (cond (leI 0 min0 && leI min0 99)
        (cond (leI (↑(1 + ByteArray.size (mk (decN min0))) : Int) (IntKind.max IntKind.i64))
         (cond (leI (↑(ByteArray.size (mk [123] ++ mk (decN min0)) + 2) : Int) (IntKind.max IntKind.i64))
          (some [(.str (mk [123] ++ mk (decN min0) ++ mk [44, 125]))])
          none)
         none)
        none)
       (cond (leI 0 min0 && leI min0 99)
        (cond (leI (↑(1 + ByteArray.size (mk (decN min0))) : Int) (IntKind.max IntKind.i64))
         (cond (leI (↑(ByteArray.size (mk [123] ++ mk (decN min0)) + 1) : Int) (IntKind.max IntKind.i64))
          (cond (leI 0 max1 && leI max1 99)
           (cond (leI (↑(ByteArray.size (mk [123] ++ mk (decN min0) ++ mk [44]) + ByteArray.size (mk (decN max1))) : Int) (IntKind.max IntKind.i64))
            (cond (leI (↑(ByteArray.size (mk [123] ++ mk (decN min0) ++ mk [44] ++ mk (decN max1)) + 1) : Int) (IntKind.max IntKind.i64))
             (some [(.str (mk [123] ++ mk (decN min0) ++ mk [44] ++ mk (decN max1) ++ mk [125]))])
             none)
            none)
           none)
          none)
         none)
        none)))))) := by kernel_rfl

/-! codesearch/codesearchref08.inner -/
theorem inner_e (G : Req → R) (m : Nat) (outer0 : Int) (re1_0 : Int) (re1_1 : List (List L)) (re1_2 : Int) (re1_3 : Int) (re1_4 : List (List L)) : runB (cfg [(k_canonical m)]) G (.enter 58 [(.lf (.int IntKind.i64 (outer0))), (.agg [(.int IntKind.i64 (re1_0)), (.lst 48 re1_1), (.int IntKind.i64 (re1_2)), (.int IntKind.i64 (re1_3)), (.lst 25 re1_4)])] []) =
  (cond (isX [L.int IntKind.i64 re1_0, L.lst 48 re1_1, L.int IntKind.i64 re1_2, L.int IntKind.i64 re1_3, L.lst 25 re1_4] m && (nodeS (decX [L.int IntKind.i64 re1_0, L.lst 48 re1_1, L.int IntKind.i64 re1_2, L.int IntKind.i64 re1_3, L.lst 25 re1_4]) == 0 && Nat.ble (Rx.nodes (decX [L.int IntKind.i64 re1_0, L.lst 48 re1_1, L.int IntKind.i64 re1_2, L.int IntKind.i64 re1_3, L.lst 25 re1_4])) 1000))
   (cond (outer0 == 2)
    (cond (re1_0 == 3)
     (cond (outer0 == 4)
      (cond (leI (↑(1 + ByteArray.size (mk (Prod.fst (canP (decX [L.int IntKind.i64 re1_0, L.lst 48 re1_1, L.int IntKind.i64 re1_2, L.int IntKind.i64 re1_3, L.lst 25 re1_4]))))) : Int) (IntKind.max IntKind.i64))
       (cond (leI (↑(ByteArray.size (mk [40] ++ mk (Prod.fst (canP (decX [L.int IntKind.i64 re1_0, L.lst 48 re1_1, L.int IntKind.i64 re1_2, L.int IntKind.i64 re1_3, L.lst 25 re1_4])))) + 1) : Int) (IntKind.max IntKind.i64))
        (some [(.str (mk [40] ++ mk (Prod.fst (canP (decX [L.int IntKind.i64 re1_0, L.lst 48 re1_1, L.int IntKind.i64 re1_2, L.int IntKind.i64 re1_3, L.lst 25 re1_4]))) ++ mk [41])), (.bool (Prod.snd (canP (decX [L.int IntKind.i64 re1_0, L.lst 48 re1_1, L.int IntKind.i64 re1_2, L.int IntKind.i64 re1_3, L.lst 25 re1_4]))))])
        none)
       none)
      (cond (leI (↑(1 + ByteArray.size (mk (Prod.fst (canP (decX [L.int IntKind.i64 re1_0, L.lst 48 re1_1, L.int IntKind.i64 re1_2, L.int IntKind.i64 re1_3, L.lst 25 re1_4]))))) : Int) (IntKind.max IntKind.i64))
       (cond (leI (↑(ByteArray.size (mk [40] ++ mk (Prod.fst (canP (decX [L.int IntKind.i64 re1_0, L.lst 48 re1_1, L.int IntKind.i64 re1_2, L.int IntKind.i64 re1_3, L.lst 25 re1_4])))) + 1) : Int) (IntKind.max IntKind.i64))
        (some [(.str (mk [40] ++ mk (Prod.fst (canP (decX [L.int IntKind.i64 re1_0, L.lst 48 re1_1, L.int IntKind.i64 re1_2, L.int IntKind.i64 re1_3, L.lst 25 re1_4]))) ++ mk [41])), (.bool (Prod.snd (canP (decX [L.int IntKind.i64 re1_0, L.lst 48 re1_1, L.int IntKind.i64 re1_2, L.int IntKind.i64 re1_3, L.lst 25 re1_4]))))])
        none)
       none))
     (cond (outer0 == 4)
      (cond (re1_0 == 2)
       (cond (leI (↑(1 + ByteArray.size (mk (Prod.fst (canP (decX [L.int IntKind.i64 re1_0, L.lst 48 re1_1, L.int IntKind.i64 re1_2, L.int IntKind.i64 re1_3, L.lst 25 re1_4]))))) : Int) (IntKind.max IntKind.i64))
        (cond (leI (↑(ByteArray.size (mk [40] ++ mk (Prod.fst (canP (decX [L.int IntKind.i64 re1_0, L.lst 48 re1_1, L.int IntKind.i64 re1_2, L.int IntKind.i64 re1_3, L.lst 25 re1_4])))) + 1) : Int) (IntKind.max IntKind.i64))
         (some [(.str (mk [40] ++ mk (Prod.fst (canP (decX [L.int IntKind.i64 re1_0, L.lst 48 re1_1, L.int IntKind.i64 re1_2, L.int IntKind.i64 re1_3, L.lst 25 re1_4]))) ++ mk [41])), (.bool (Prod.snd (canP (decX [L.int IntKind.i64 re1_0, L.lst 48 re1_1, L.int IntKind.i64 re1_2, L.int IntKind.i64 re1_3, L.lst 25 re1_4]))))])
         none)
        none)
       (cond (re1_0 == 2)
        (cond (leI (↑(1 + ByteArray.size (mk (Prod.fst (canP (decX [L.int IntKind.i64 re1_0, L.lst 48 re1_1, L.int IntKind.i64 re1_2, L.int IntKind.i64 re1_3, L.lst 25 re1_4]))))) : Int) (IntKind.max IntKind.i64))
         (cond (leI (↑(ByteArray.size (mk [40] ++ mk (Prod.fst (canP (decX [L.int IntKind.i64 re1_0, L.lst 48 re1_1, L.int IntKind.i64 re1_2, L.int IntKind.i64 re1_3, L.lst 25 re1_4])))) + 1) : Int) (IntKind.max IntKind.i64))
          (some [(.str (mk [40] ++ mk (Prod.fst (canP (decX [L.int IntKind.i64 re1_0, L.lst 48 re1_1, L.int IntKind.i64 re1_2, L.int IntKind.i64 re1_3, L.lst 25 re1_4]))) ++ mk [41])), (.bool (Prod.snd (canP (decX [L.int IntKind.i64 re1_0, L.lst 48 re1_1, L.int IntKind.i64 re1_2, L.int IntKind.i64 re1_3, L.lst 25 re1_4]))))])
          none)
         none)
        (cond (re1_0 == 4)
         (cond (leI (↑(1 + ByteArray.size (mk (Prod.fst (canP (decX [L.int IntKind.i64 re1_0, L.lst 48 re1_1, L.int IntKind.i64 re1_2, L.int IntKind.i64 re1_3, L.lst 25 re1_4]))))) : Int) (IntKind.max IntKind.i64))
          (cond (leI (↑(ByteArray.size (mk [40] ++ mk (Prod.fst (canP (decX [L.int IntKind.i64 re1_0, L.lst 48 re1_1, L.int IntKind.i64 re1_2, L.int IntKind.i64 re1_3, L.lst 25 re1_4])))) + 1) : Int) (IntKind.max IntKind.i64))
           (some [(.str (mk [40] ++ mk (Prod.fst (canP (decX [L.int IntKind.i64 re1_0, L.lst 48 re1_1, L.int IntKind.i64 re1_2, L.int IntKind.i64 re1_3, L.lst 25 re1_4]))) ++ mk [41])), (.bool (Prod.snd (canP (decX [L.int IntKind.i64 re1_0, L.lst 48 re1_1, L.int IntKind.i64 re1_2, L.int IntKind.i64 re1_3, L.lst 25 re1_4]))))])
           none)
          none)
         (some [(.str (mk (Prod.fst (canP (decX [L.int IntKind.i64 re1_0, L.lst 48 re1_1, L.int IntKind.i64 re1_2, L.int IntKind.i64 re1_3, L.lst 25 re1_4]))))), (.bool (Prod.snd (canP (decX [L.int IntKind.i64 re1_0, L.lst 48 re1_1, L.int IntKind.i64 re1_2, L.int IntKind.i64 re1_3, L.lst 25 re1_4]))))]))))
      (cond (re1_0 == 2)
       (cond (leI (↑(1 + ByteArray.size (mk (Prod.fst (canP (decX [L.int IntKind.i64 re1_0, L.lst 48 re1_1, L.int IntKind.i64 re1_2, L.int IntKind.i64 re1_3, L.lst 25 re1_4]))))) : Int) (IntKind.max IntKind.i64))
        (cond (leI (↑(ByteArray.size (mk [40] ++ mk (Prod.fst (canP (decX [L.int IntKind.i64 re1_0, L.lst 48 re1_1, L.int IntKind.i64 re1_2, L.int IntKind.i64 re1_3, L.lst 25 re1_4])))) + 1) : Int) (IntKind.max IntKind.i64))
         (some [(.str (mk [40] ++ mk (Prod.fst (canP (decX [L.int IntKind.i64 re1_0, L.lst 48 re1_1, L.int IntKind.i64 re1_2, L.int IntKind.i64 re1_3, L.lst 25 re1_4]))) ++ mk [41])), (.bool (Prod.snd (canP (decX [L.int IntKind.i64 re1_0, L.lst 48 re1_1, L.int IntKind.i64 re1_2, L.int IntKind.i64 re1_3, L.lst 25 re1_4]))))])
         none)
        none)
       (some [(.str (mk (Prod.fst (canP (decX [L.int IntKind.i64 re1_0, L.lst 48 re1_1, L.int IntKind.i64 re1_2, L.int IntKind.i64 re1_3, L.lst 25 re1_4]))))), (.bool (Prod.snd (canP (decX [L.int IntKind.i64 re1_0, L.lst 48 re1_1, L.int IntKind.i64 re1_2, L.int IntKind.i64 re1_3, L.lst 25 re1_4]))))]))))
    (cond (outer0 == 4)
     (cond (re1_0 == 3)
      (cond (leI (↑(1 + ByteArray.size (mk (Prod.fst (canP (decX [L.int IntKind.i64 re1_0, L.lst 48 re1_1, L.int IntKind.i64 re1_2, L.int IntKind.i64 re1_3, L.lst 25 re1_4]))))) : Int) (IntKind.max IntKind.i64))
       (cond (leI (↑(ByteArray.size (mk [40] ++ mk (Prod.fst (canP (decX [L.int IntKind.i64 re1_0, L.lst 48 re1_1, L.int IntKind.i64 re1_2, L.int IntKind.i64 re1_3, L.lst 25 re1_4])))) + 1) : Int) (IntKind.max IntKind.i64))
        (some [(.str (mk [40] ++ mk (Prod.fst (canP (decX [L.int IntKind.i64 re1_0, L.lst 48 re1_1, L.int IntKind.i64 re1_2, L.int IntKind.i64 re1_3, L.lst 25 re1_4]))) ++ mk [41])), (.bool (Prod.snd (canP (decX [L.int IntKind.i64 re1_0, L.lst 48 re1_1, L.int IntKind.i64 re1_2, L.int IntKind.i64 re1_3, L.lst 25 re1_4]))))])
        none)
       none)
      (cond (re1_0 == 2)
       (cond (leI (↑(1 + ByteArray.size (mk (Prod.fst (canP (decX [L.int IntKind.i64 re1_0, L.lst 48 re1_1, L.int IntKind.i64 re1_2, L.int IntKind.i64 re1_3, L.lst 25 re1_4]))))) : Int) (IntKind.max IntKind.i64))
        (cond (leI (↑(ByteArray.size (mk [40] ++ mk (Prod.fst (canP (decX [L.int IntKind.i64 re1_0, L.lst 48 re1_1, L.int IntKind.i64 re1_2, L.int IntKind.i64 re1_3, L.lst 25 re1_4])))) + 1) : Int) (IntKind.max IntKind.i64))
         (some [(.str (mk [40] ++ mk (Prod.fst (canP (decX [L.int IntKind.i64 re1_0, L.lst 48 re1_1, L.int IntKind.i64 re1_2, L.int IntKind.i64 re1_3, L.lst 25 re1_4]))) ++ mk [41])), (.bool (Prod.snd (canP (decX [L.int IntKind.i64 re1_0, L.lst 48 re1_1, L.int IntKind.i64 re1_2, L.int IntKind.i64 re1_3, L.lst 25 re1_4]))))])
         none)
        none)
       (cond (re1_0 == 4)
        (cond (leI (↑(1 + ByteArray.size (mk (Prod.fst (canP (decX [L.int IntKind.i64 re1_0, L.lst 48 re1_1, L.int IntKind.i64 re1_2, L.int IntKind.i64 re1_3, L.lst 25 re1_4]))))) : Int) (IntKind.max IntKind.i64))
         (cond (leI (↑(ByteArray.size (mk [40] ++ mk (Prod.fst (canP (decX [L.int IntKind.i64 re1_0, L.lst 48 re1_1, L.int IntKind.i64 re1_2, L.int IntKind.i64 re1_3, L.lst 25 re1_4])))) + 1) : Int) (IntKind.max IntKind.i64))
          (some [(.str (mk [40] ++ mk (Prod.fst (canP (decX [L.int IntKind.i64 re1_0, L.lst 48 re1_1, L.int IntKind.i64 re1_2, L.int IntKind.i64 re1_3, L.lst 25 re1_4]))) ++ mk [41])), (.bool (Prod.snd (canP (decX [L.int IntKind.i64 re1_0, L.lst 48 re1_1, L.int IntKind.i64 re1_2, L.int IntKind.i64 re1_3, L.lst 25 re1_4]))))])
          none)
         none)
        (some [(.str (mk (Prod.fst (canP (decX [L.int IntKind.i64 re1_0, L.lst 48 re1_1, L.int IntKind.i64 re1_2, L.int IntKind.i64 re1_3, L.lst 25 re1_4]))))), (.bool (Prod.snd (canP (decX [L.int IntKind.i64 re1_0, L.lst 48 re1_1, L.int IntKind.i64 re1_2, L.int IntKind.i64 re1_3, L.lst 25 re1_4]))))]))))
     (cond (re1_0 == 3)
      (cond (leI (↑(1 + ByteArray.size (mk (Prod.fst (canP (decX [L.int IntKind.i64 re1_0, L.lst 48 re1_1, L.int IntKind.i64 re1_2, L.int IntKind.i64 re1_3, L.lst 25 re1_4]))))) : Int) (IntKind.max IntKind.i64))
       (cond (leI (↑(ByteArray.size (mk [40] ++ mk (Prod.fst (canP (decX [L.int IntKind.i64 re1_0, L.lst 48 re1_1, L.int IntKind.i64 re1_2, L.int IntKind.i64 re1_3, L.lst 25 re1_4])))) + 1) : Int) (IntKind.max IntKind.i64))
        (some [(.str (mk [40] ++ mk (Prod.fst (canP (decX [L.int IntKind.i64 re1_0, L.lst 48 re1_1, L.int IntKind.i64 re1_2, L.int IntKind.i64 re1_3, L.lst 25 re1_4]))) ++ mk [41])), (.bool (Prod.snd (canP (decX [L.int IntKind.i64 re1_0, L.lst 48 re1_1, L.int IntKind.i64 re1_2, L.int IntKind.i64 re1_3, L.lst 25 re1_4]))))])
        none)
       none)
      (some [(.str (mk (Prod.fst (canP (decX [L.int IntKind.i64 re1_0, L.lst 48 re1_1, L.int IntKind.i64 re1_2, L.int IntKind.i64 re1_3, L.lst 25 re1_4]))))), (.bool (Prod.snd (canP (decX [L.int IntKind.i64 re1_0, L.lst 48 re1_1, L.int IntKind.i64 re1_2, L.int IntKind.i64 re1_3, L.lst 25 re1_4]))))]))))
   none) := by kernel_rfl

/-! codesearch/codesearchref08.canonical -/
noncomputable def canonical_q16 (s6 : ByteArray) (i7 : Int) (h0_0 : Int) (h0_1 : List (List L)) (h0_2 : Int) (h0_3 : Int) (h0_4 : List (List L)) : Req := .point 42 [] (todoAt Tryd.prog 42 16) ⟨[an, (.lf (.ptr 0 0)), an, an, an, an, (.lf (.str s6)), (.lf (.int IntKind.i64 i7)), an, an, an, an, an, an, an, an, an, an, an, an, an, an, an, an, an, an, an, an, an, an, an, an, an, an, an, an, an, an, an, an, an, an, an, an, an, an, an, an, an, an, an, an, an, an, an, an, an, an, an, an, an, an, an, an, an, an, an, an, an, an, an, an, an, an, an, an, an, an, an, an, an, an, an, an, an, an, an, an, an, an], [(.box [(.int IntKind.i64), (.sl 48), (.int IntKind.i64), (.int IntKind.i64), (.sl 25)] [(.int IntKind.i64 h0_0), (.lst 48 h0_1), (.int IntKind.i64 h0_2), (.int IntKind.i64 h0_3), (.lst 25 h0_4)])]⟩
theorem canonical_e (G : Req → R) (m : Nat) (re0_0 : Int) (re0_1 : List (List L)) (re0_2 : Int) (re0_3 : Int) (re0_4 : List (List L)) : runB (cfg [k_ofSet, (k_inner m), k_suffix]) G (.enter 42 [(.agg [(.int IntKind.i64 (re0_0)), (.lst 48 re0_1), (.int IntKind.i64 (re0_2)), (.int IntKind.i64 (re0_3)), (.lst 25 re0_4)])] []) =
  (cond (re0_0 == 1)
   (cond (isRs re0_1)
    (some [(.str (mk (Prod.fst (setR (decRs re0_1))))), (.bool (Prod.snd (setR (decRs re0_1))))])
    none)
   (cond (re0_0 == 5)
    (some [(.str (mk [94])), (.bool (true))])
    (cond (re0_0 == 6)
     (some [(.str (mk [36])), (.bool (true))])
     (cond (re0_0 == 7)
      (some [(.str (mk [92, 98])), (.bool (true))])
      (cond (re0_0 == 4)
       (cond (ltI 0 (↑(List.length re0_4) : Int))
        (cond (leI 2 re0_0 && leI re0_0 4 && (isX [L.int IntKind.i64 (cI 0 (atL re0_4 0)), L.lst 48 (cX 1 (atL re0_4 0)), L.int IntKind.i64 (cI 2 (atL re0_4 0)), L.int IntKind.i64 (cI 3 (atL re0_4 0)), L.lst 25 (cX 4 (atL re0_4 0))] m && (nodeS (decX [L.int IntKind.i64 (cI 0 (atL re0_4 0)), L.lst 48 (cX 1 (atL re0_4 0)), L.int IntKind.i64 (cI 2 (atL re0_4 0)), L.int IntKind.i64 (cI 3 (atL re0_4 0)), L.lst 25 (cX 4 (atL re0_4 0))]) == 0 && Nat.ble (Rx.nodes (decX [L.int IntKind.i64 (cI 0 (atL re0_4 0)), L.lst 48 (cX 1 (atL re0_4 0)), L.int IntKind.i64 (cI 2 (atL re0_4 0)), L.int IntKind.i64 (cI 3 (atL re0_4 0)), L.lst 25 (cX 4 (atL re0_4 0))])) 1000)))
         (cond (leI 0 re0_2 && leI re0_2 99 && (leI (-1) re0_3 && leI re0_3 99))
          (cond (leI (↑(ByteArray.size (mk (wrapP (ksOf re0_0) (decX [L.int IntKind.i64 (cI 0 (atL re0_4 0)), L.lst 48 (cX 1 (atL re0_4 0)), L.int IntKind.i64 (cI 2 (atL re0_4 0)), L.int IntKind.i64 (cI 3 (atL re0_4 0)), L.lst 25 (cX 4 (atL re0_4 0))]) (Prod.fst (canP (decX [L.int IntKind.i64 (cI 0 (atL re0_4 0)), L.lst 48 (cX 1 (atL re0_4 0)), L.int IntKind.i64 (cI 2 (atL re0_4 0)), L.int IntKind.i64 (cI 3 (atL re0_4 0)), L.lst 25 (cX 4 (atL re0_4 0))]))))) + ByteArray.size (mk (sufP re0_2 re0_3))) : Int) (IntKind.max IntKind.i64))
           (some [(.str (mk (wrapP (ksOf re0_0) (decX [L.int IntKind.i64 (cI 0 (atL re0_4 0)), L.lst 48 (cX 1 (atL re0_4 0)), L.int IntKind.i64 (cI 2 (atL re0_4 0)), L.int IntKind.i64 (cI 3 (atL re0_4 0)), L.lst 25 (cX 4 (atL re0_4 0))]) (Prod.fst (canP (decX [L.int IntKind.i64 (cI 0 (atL re0_4 0)), L.lst 48 (cX 1 (atL re0_4 0)), L.int IntKind.i64 (cI 2 (atL re0_4 0)), L.int IntKind.i64 (cI 3 (atL re0_4 0)), L.lst 25 (cX 4 (atL re0_4 0))])))) ++ mk (sufP re0_2 re0_3))), (.bool (Prod.snd (canP (decX [L.int IntKind.i64 (cI 0 (atL re0_4 0)), L.lst 48 (cX 1 (atL re0_4 0)), L.int IntKind.i64 (cI 2 (atL re0_4 0)), L.int IntKind.i64 (cI 3 (atL re0_4 0)), L.lst 25 (cX 4 (atL re0_4 0))]))))])
           none)
          none)
         none)
        none)
       (cond (re0_0 == 2)
        (cond ((↑(List.length re0_4) : Int) == 1)
         (some [(.str (mk [])), (.bool (false))])
         (G (canonical_q16 (mk []) 0 re0_0 re0_1 re0_2 re0_3 re0_4)))
        (G (canonical_q16 (mk []) 0 re0_0 re0_1 re0_2 re0_3 re0_4)))))))) := by kernel_rfl
theorem canonical_p16 (G : Req → R) (m : Nat) (s6 : ByteArray) (i7 : Int) (h0_0 : Int) (h0_1 : List (List L)) (h0_2 : Int) (h0_3 : Int) (h0_4 : List (List L)) : runB (cfg [k_ofSet, (k_inner m), k_suffix]) G (canonical_q16 s6 i7 h0_0 h0_1 h0_2 h0_3 h0_4) =
  (cond (ltI i7 (↑(List.length h0_4) : Int))
   (cond (leI 0 i7 && ltI i7 (↑(List.length h0_4) : Int))
    (cond (leI 2 h0_0 && leI h0_0 4 && (isX [L.int IntKind.i64 (cI 0 (atL h0_4 i7)), L.lst 48 (cX 1 (atL h0_4 i7)), L.int IntKind.i64 (cI 2 (atL h0_4 i7)), L.int IntKind.i64 (cI 3 (atL h0_4 i7)), L.lst 25 (cX 4 (atL h0_4 i7))] m && (nodeS (decX [L.int IntKind.i64 (cI 0 (atL h0_4 i7)), L.lst 48 (cX 1 (atL h0_4 i7)), L.int IntKind.i64 (cI 2 (atL h0_4 i7)), L.int IntKind.i64 (cI 3 (atL h0_4 i7)), L.lst 25 (cX 4 (atL h0_4 i7))]) == 0 && Nat.ble (Rx.nodes (decX [L.int IntKind.i64 (cI 0 (atL h0_4 i7)), L.lst 48 (cX 1 (atL h0_4 i7)), L.int IntKind.i64 (cI 2 (atL h0_4 i7)), L.int IntKind.i64 (cI 3 (atL h0_4 i7)), L.lst 25 (cX 4 (atL h0_4 i7))])) 1000)))
     (cond (!Prod.snd (canP (decX [L.int IntKind.i64 (cI 0 (atL h0_4 i7)), L.lst 48 (cX 1 (atL h0_4 i7)), L.int IntKind.i64 (cI 2 (atL h0_4 i7)), L.int IntKind.i64 (cI 3 (atL h0_4 i7)), L.lst 25 (cX 4 (atL h0_4 i7))])))
      (some [(.str (mk [])), (.bool (false))])
      (cond (h0_0 == 3)
       (cond (ltI 0 i7)
        (cond (leI (↑(ByteArray.size s6 + 1) : Int) (IntKind.max IntKind.i64))
         (cond (leI (↑(ByteArray.size (s6 ++ mk [124]) + ByteArray.size (mk (wrapP (ksOf h0_0) (decX [L.int IntKind.i64 (cI 0 (atL h0_4 i7)), L.lst 48 (cX 1 (atL h0_4 i7)), L.int IntKind.i64 (cI 2 (atL h0_4 i7)), L.int IntKind.i64 (cI 3 (atL h0_4 i7)), L.lst 25 (cX 4 (atL h0_4 i7))]) (Prod.fst (canP (decX [L.int IntKind.i64 (cI 0 (atL h0_4 i7)), L.lst 48 (cX 1 (atL h0_4 i7)), L.int IntKind.i64 (cI 2 (atL h0_4 i7)), L.int IntKind.i64 (cI 3 (atL h0_4 i7)), L.lst 25 (cX 4 (atL h0_4 i7))])))))) : Int) (IntKind.max IntKind.i64))
          (G (canonical_q16 (s6 ++ mk [124] ++ mk (wrapP (ksOf h0_0) (decX [L.int IntKind.i64 (cI 0 (atL h0_4 i7)), L.lst 48 (cX 1 (atL h0_4 i7)), L.int IntKind.i64 (cI 2 (atL h0_4 i7)), L.int IntKind.i64 (cI 3 (atL h0_4 i7)), L.lst 25 (cX 4 (atL h0_4 i7))]) (Prod.fst (canP (decX [L.int IntKind.i64 (cI 0 (atL h0_4 i7)), L.lst 48 (cX 1 (atL h0_4 i7)), L.int IntKind.i64 (cI 2 (atL h0_4 i7)), L.int IntKind.i64 (cI 3 (atL h0_4 i7)), L.lst 25 (cX 4 (atL h0_4 i7))]))))) (wrapI IntKind.i64 (i7 + 1)) h0_0 h0_1 h0_2 h0_3 h0_4))
          none)
         none)
        (cond (leI (↑(ByteArray.size s6 + ByteArray.size (mk (wrapP (ksOf h0_0) (decX [L.int IntKind.i64 (cI 0 (atL h0_4 i7)), L.lst 48 (cX 1 (atL h0_4 i7)), L.int IntKind.i64 (cI 2 (atL h0_4 i7)), L.int IntKind.i64 (cI 3 (atL h0_4 i7)), L.lst 25 (cX 4 (atL h0_4 i7))]) (Prod.fst (canP (decX [L.int IntKind.i64 (cI 0 (atL h0_4 i7)), L.lst 48 (cX 1 (atL h0_4 i7)), L.int IntKind.i64 (cI 2 (atL h0_4 i7)), L.int IntKind.i64 (cI 3 (atL h0_4 i7)), L.lst 25 (cX 4 (atL h0_4 i7))])))))) : Int) (IntKind.max IntKind.i64))
         (G (canonical_q16 (s6 ++ mk (wrapP (ksOf h0_0) (decX [L.int IntKind.i64 (cI 0 (atL h0_4 i7)), L.lst 48 (cX 1 (atL h0_4 i7)), L.int IntKind.i64 (cI 2 (atL h0_4 i7)), L.int IntKind.i64 (cI 3 (atL h0_4 i7)), L.lst 25 (cX 4 (atL h0_4 i7))]) (Prod.fst (canP (decX [L.int IntKind.i64 (cI 0 (atL h0_4 i7)), L.lst 48 (cX 1 (atL h0_4 i7)), L.int IntKind.i64 (cI 2 (atL h0_4 i7)), L.int IntKind.i64 (cI 3 (atL h0_4 i7)), L.lst 25 (cX 4 (atL h0_4 i7))]))))) (wrapI IntKind.i64 (i7 + 1)) h0_0 h0_1 h0_2 h0_3 h0_4))
         none))
       (cond (leI (↑(ByteArray.size s6 + ByteArray.size (mk (wrapP (ksOf h0_0) (decX [L.int IntKind.i64 (cI 0 (atL h0_4 i7)), L.lst 48 (cX 1 (atL h0_4 i7)), L.int IntKind.i64 (cI 2 (atL h0_4 i7)), L.int IntKind.i64 (cI 3 (atL h0_4 i7)), L.lst 25 (cX 4 (atL h0_4 i7))]) (Prod.fst (canP (decX [L.int IntKind.i64 (cI 0 (atL h0_4 i7)), L.lst 48 (cX 1 (atL h0_4 i7)), L.int IntKind.i64 (cI 2 (atL h0_4 i7)), L.int IntKind.i64 (cI 3 (atL h0_4 i7)), L.lst 25 (cX 4 (atL h0_4 i7))])))))) : Int) (IntKind.max IntKind.i64))
        (G (canonical_q16 (s6 ++ mk (wrapP (ksOf h0_0) (decX [L.int IntKind.i64 (cI 0 (atL h0_4 i7)), L.lst 48 (cX 1 (atL h0_4 i7)), L.int IntKind.i64 (cI 2 (atL h0_4 i7)), L.int IntKind.i64 (cI 3 (atL h0_4 i7)), L.lst 25 (cX 4 (atL h0_4 i7))]) (Prod.fst (canP (decX [L.int IntKind.i64 (cI 0 (atL h0_4 i7)), L.lst 48 (cX 1 (atL h0_4 i7)), L.int IntKind.i64 (cI 2 (atL h0_4 i7)), L.int IntKind.i64 (cI 3 (atL h0_4 i7)), L.lst 25 (cX 4 (atL h0_4 i7))]))))) (wrapI IntKind.i64 (i7 + 1)) h0_0 h0_1 h0_2 h0_3 h0_4))
        none)))
     none)
    none)
   (some [(.str (s6)), (.bool (true))])) := by kernel_rfl

/-! codesearch/codesearchref08.Print -/
theorem rPrint_e (G : Req → R) (re0_0 : Int) (re0_1 : List (List L)) (re0_2 : Int) (re0_3 : Int) (re0_4 : List (List L)) : runB (cfg [k_rRight, (k_canonical 12)]) G (.enter 19 [(.agg [(.int IntKind.i64 (re0_0)), (.lst 48 re0_1), (.int IntKind.i64 (re0_2)), (.int IntKind.i64 (re0_3)), (.lst 25 re0_4)])] []) =
  (cond (isX [L.int IntKind.i64 re0_0, L.lst 48 re0_1, L.int IntKind.i64 re0_2, L.int IntKind.i64 re0_3, L.lst 25 re0_4] 1000000000000)
   (cond (rightS (decX [L.int IntKind.i64 re0_0, L.lst 48 re0_1, L.int IntKind.i64 re0_2, L.int IntKind.i64 re0_3, L.lst 25 re0_4]) != 0)
    (some [(.str (mk [])), (.int IntKind.i64 (rightS (decX [L.int IntKind.i64 re0_0, L.lst 48 re0_1, L.int IntKind.i64 re0_2, L.int IntKind.i64 re0_3, L.lst 25 re0_4])))])
    (cond (isX [L.int IntKind.i64 re0_0, L.lst 48 re0_1, L.int IntKind.i64 re0_2, L.int IntKind.i64 re0_3, L.lst 25 re0_4] 12 && (nodeS (decX [L.int IntKind.i64 re0_0, L.lst 48 re0_1, L.int IntKind.i64 re0_2, L.int IntKind.i64 re0_3, L.lst 25 re0_4]) == 0 && Nat.ble (Rx.nodes (decX [L.int IntKind.i64 re0_0, L.lst 48 re0_1, L.int IntKind.i64 re0_2, L.int IntKind.i64 re0_3, L.lst 25 re0_4])) 1000))
     (cond (!Prod.snd (canP (decX [L.int IntKind.i64 re0_0, L.lst 48 re0_1, L.int IntKind.i64 re0_2, L.int IntKind.i64 re0_3, L.lst 25 re0_4])))
      (some [(.str (mk [])), (.int IntKind.i64 (3))])
      (cond (ltI 300 (↑(ByteArray.size (mk (Prod.fst (canP (decX [L.int IntKind.i64 re0_0, L.lst 48 re0_1, L.int IntKind.i64 re0_2, L.int IntKind.i64 re0_3, L.lst 25 re0_4]))))) : Int))
       (some [(.str (mk [])), (.int IntKind.i64 (3))])
       (some [(.str (mk (Prod.fst (canP (decX [L.int IntKind.i64 re0_0, L.lst 48 re0_1, L.int IntKind.i64 re0_2, L.int IntKind.i64 re0_3, L.lst 25 re0_4]))))), (.int IntKind.i64 (0))])))
     none))
   none) := by kernel_rfl

/-! codesearch/codesearchlaw08.RegexPrints -/
theorem LPrints_e (G : Req → R) (re0_0 : Int) (re0_1 : List (List L)) (re0_2 : Int) (re0_3 : Int) (re0_4 : List (List L)) : runB (cfg [k_alive, k_small, k_Print, k_rPrint]) G (.enter 5 [(.agg [(.int IntKind.i64 (re0_0)), (.lst 48 re0_1), (.int IntKind.i64 (re0_2)), (.int IntKind.i64 (re0_3)), (.lst 25 re0_4)])] []) =
  (cond (isXa [L.int IntKind.i64 re0_0, L.lst 48 re0_1, L.int IntKind.i64 re0_2, L.int IntKind.i64 re0_3, L.lst 25 re0_4])
   (cond (!smallX (decX [L.int IntKind.i64 re0_0, L.lst 48 re0_1, L.int IntKind.i64 re0_2, L.int IntKind.i64 re0_3, L.lst 25 re0_4]))
    (some [(.bool (true))])
    (cond (isX [L.int IntKind.i64 re0_0, L.lst 48 re0_1, L.int IntKind.i64 re0_2, L.int IntKind.i64 re0_3, L.lst 25 re0_4] 1000000000000)
     (cond (isX [L.int IntKind.i64 re0_0, L.lst 48 re0_1, L.int IntKind.i64 re0_2, L.int IntKind.i64 re0_3, L.lst 25 re0_4] 1000000000000)
      (cond (Prod.snd (printP (decX [L.int IntKind.i64 re0_0, L.lst 48 re0_1, L.int IntKind.i64 re0_2, L.int IntKind.i64 re0_3, L.lst 25 re0_4])) == Prod.snd (printR (decX [L.int IntKind.i64 re0_0, L.lst 48 re0_1, L.int IntKind.i64 re0_2, L.int IntKind.i64 re0_3, L.lst 25 re0_4])))
       (some [(.bool (bl (mk (Prod.fst (printP (decX [L.int IntKind.i64 re0_0, L.lst 48 re0_1, L.int IntKind.i64 re0_2, L.int IntKind.i64 re0_3, L.lst 25 re0_4])))) == bl (mk (Prod.fst (printR (decX [L.int IntKind.i64 re0_0, L.lst 48 re0_1, L.int IntKind.i64 re0_2, L.int IntKind.i64 re0_3, L.lst 25 re0_4]))))))])
       (some [(.bool (false))]))
      none)
     none))
   none) := by kernel_rfl

end Go.Ab
namespace Go.Ab
open Go.Proofs

theorem inText_loop (l : List UInt8) (c : UInt8) (hl : l.length ≤ 1000000) : ∀ k i : Nat, i + k = l.length → Runs (cfg []) (inText_q2 (mk l) (c.toNat : Int) (i : Nat)) [.bool (decide (c ∈ l.drop i))]
  | 0, i, h => by
    refine Runs.by (inText_p2 · _ _ _) ?_
    rw [size_mk, ev_lt_f (by omega), drop_end (by omega)]
    exact .ret' (by simp)
  | k + 1, i, h => by
    refine Runs.by (inText_p2 · _ _ _) ?_
    have hi : i < l.length := by omega
    rw [size_mk, ev_lt_t (by omega), ev_le_t (by omega), byI_mk, beq_u8, w64 (by omega) (by omega), drop_at 0 hi]
    simp only [Bool.and_self, cond_true]
    by_cases e : l.getD i 0 = c
    · rw [decide_eq_true e, decide_eq_true (List.mem_cons.2 (.inl e.symm))]
      exact .ret
    · have e2 : decide (c ∈ l.getD i 0 :: l.drop (i + 1)) = decide (c ∈ l.drop (i + 1)) := by
        rw [decide_eq_decide, List.mem_cons]
        exact ⟨fun h => h.elim (fun h => absurd h.symm e) id, .inr⟩
      rw [decide_eq_false e, e2]
      exact .go (by simpa using inText_loop l c hl k (i + 1) (by omega))
theorem inText_holds : Holds k_inText := con_run (xs := []) hold0 fun aa hp r h => by
  split at h
  case h_2 => cases h
  rename_i s c
  obtain ⟨g, rfl⟩ := xo h
  rw [Bool.and_eq_true] at g
  obtain ⟨b, rfl⟩ := okB_of g.1
  obtain ⟨l, rfl⟩ := str_cases s
  have g2 := Nat.le_of_ble_eq_true g.2
  rw [size_mk] at g2
  refine Runs.by (inText_e · _ _) ?_
  rw [u8_of, bl_mk]
  exact .go (by simpa using inText_loop l b g2 l.length 0 (by omega))
theorem le_32 (b : UInt8) : leI 32 (b.toNat : Int) = decide (32 ≤ b) := le_u8 32 b
theorem le_126 (b : UInt8) : leI (b.toNat : Int) 126 = decide (b ≤ 126) := le_u8 b 126
theorem writable_holds : Holds k_writable := con_run (xs := []) hold0 fun aa hp r h => by
  split at h
  case h_2 => cases h
  obtain ⟨g, rfl⟩ := xo h
  obtain ⟨b, rfl⟩ := okB_of g
  refine Runs.by (writable_e · _) ?_
  have e9 := beq_nat8 b 9 (by decide)
  have e10 := beq_nat8 b 10 (by decide)
  rw [show ((9 : Nat) : Int) = 9 from rfl, show UInt8.ofNat 9 = 9 from rfl] at e9
  rw [show ((10 : Nat) : Int) = 10 from rfl, show UInt8.ofNat 10 = 10 from rfl] at e10
  rw [e9, e10, le_32, le_126, u8_of]
  unfold visB
  by_cases h1 : b = 9
  · rw [decide_eq_true h1]; exact .ret
  · rw [decide_eq_false h1]
    by_cases h2 : b = 10
    · rw [decide_eq_true h2]; exact .ret
    · rw [decide_eq_false h2]
      by_cases h3 : 32 ≤ b
      · rw [decide_eq_true h3]; exact .ret' (by simp)
      · rw [decide_eq_false h3]; exact .ret' (by simp)
theorem quoted_holds : Holds k_quoted := con_run (xs := [k_inText]) (hold1 inText_holds hold0) fun aa hp r h => by
  split at h
  case h_2 => cases h
  rename_i c m
  obtain ⟨g, rfl⟩ := xo h
  have g' := g
  rw [Bool.and_eq_true] at g
  obtain ⟨b, rfl⟩ := okB_of g.1
  refine Runs.by (quoted_e · _ _) ?_
  have e9 := beq_nat8 b 9 (by decide)
  have e10 := beq_nat8 b 10 (by decide)
  rw [show ((9 : Nat) : Int) = 9 from rfl, show UInt8.ofNat 9 = 9 from rfl] at e9
  rw [show ((10 : Nat) : Int) = 10 from rfl, show UInt8.ofNat 10 = 10 from rfl] at e10
  rw [e9, e10, u8_of, g', one_b, app_mk]
  unfold wrB
  by_cases h1 : b = 9
  · rw [decide_eq_true h1, if_pos h1]; exact .ret
  · rw [decide_eq_false h1, if_neg h1]
    by_cases h2 : b = 10
    · rw [decide_eq_true h2, if_pos h2]; exact .ret
    · rw [decide_eq_false h2, if_neg h2]
      by_cases h3 : b ∈ bl m
      · rw [decide_eq_true h3, if_pos h3]; exact .ret
      · rw [decide_eq_false h3, if_neg h3]; exact .ret
theorem rranges_loop (l : List (UInt8 × UInt8)) (hl : l.length ≤ 1000000000000) : ∀ (k i : Nat) (acc : List UInt8), i + k = l.length → acc.length ≤ 5 * i →
    Runs (cfg [k_writable, k_quoted]) (rranges_q3 (encRs l) (mk acc) (i : Nat))
      (cond ((l.drop i).all fun r => visB r.1 && visB r.2) [.str (mk (acc ++ (l.drop i).flatMap inR)), .bool true] [.str (mk []), .bool false])
  | 0, i, acc, h, ha => by
    refine Runs.by (rranges_p3 · _ _ _) ?_
    simp (disch := omega) only [encRs_len, ev_lt_f, cond_false]
    rw [drop_end (by omega)]
    refine .ret' ?_
    simp
  | k + 1, i, acc, h, ha => by
    refine Runs.by (rranges_p3 · _ _ _) ?_
    have hi : i < l.length := by omega
    have w1 := wrB_len (l.getD i (0, 0)).1 insB
    have w2 := wrB_len (l.getD i (0, 0)).2 insB
    have hr := inR_len (l.getD i (0, 0))
    rw [drop_at (0, 0) hi]
    have ih := rranges_loop l hl k (i + 1) (acc ++ inR (l.getD i (0, 0))) (by omega) (by rw [List.length_append]; omega)
    rw [List.all_cons, List.flatMap_cons]
    simp (disch := omega) only [encRs_len, ev_lt_t, ev_le_t, cond_true, Bool.and_self, rs_at, cI0, cI1, w64, okB_u8, u8_of, bl_mk, size_mk, app_mk, imax]
    simp only [show ([92, 91, 93, 94, 45] : List UInt8) = insB from rfl]
    simp only [List.length_append, List.length_cons, List.length_nil]
    simp (disch := omega) only [ev_le_t, cond_true]
    cases v1 : visB (l.getD i (0, 0)).1 with
    | false => exact .ret
    | true =>
      cases v2 : visB (l.getD i (0, 0)).2 with
      | false => exact .ret
      | true =>
        simp only [Bool.not_true, cond_false, Bool.true_and]
        rw [lt_u8]
        unfold inR at ih ⊢
        by_cases h3 : (l.getD i (0, 0)).1 < (l.getD i (0, 0)).2
        · rw [decide_eq_true h3]
          rw [if_pos h3] at ih ⊢
          refine .go ?_
          have e : acc ++ wrB (l.getD i (0, 0)).1 insB ++ [45] ++ wrB (l.getD i (0, 0)).2 insB = acc ++ (wrB (l.getD i (0, 0)).1 insB ++ 45 :: wrB (l.getD i (0, 0)).2 insB) := by simp
          rw [e]
          have e2 : acc ++ (wrB (l.getD i (0, 0)).1 insB ++ 45 :: wrB (l.getD i (0, 0)).2 insB ++ (l.drop (i + 1)).flatMap inR) = acc ++ (wrB (l.getD i (0, 0)).1 insB ++ 45 :: wrB (l.getD i (0, 0)).2 insB) ++ (l.drop (i + 1)).flatMap inR := by simp
          unfold inR at e2
          rw [e2]
          exact ih
        · rw [decide_eq_false h3]
          rw [if_neg h3] at ih ⊢
          rw [List.append_nil] at ih ⊢
          refine .go ?_
          rw [← List.append_assoc]
          exact ih
theorem rranges_holds : Holds k_rranges := con_run (xs := [k_writable, k_quoted]) (hold1 writable_holds (hold1 quoted_holds hold0)) fun aa hp r h => by
  split at h
  case h_2 => cases h
  obtain ⟨g, rfl⟩ := xo h
  obtain ⟨l, rfl, hl⟩ := isRs_of g
  refine Runs.by (rranges_e · _) ?_
  have := rranges_loop l hl l.length 0 [] (by omega) (by simp)
  rw [decRs_enc]
  unfold ranR
  rw [List.drop_zero] at this
  refine .go ?_
  cases hv : l.all fun r => visB r.1 && visB r.2 with
  | true => rw [hv] at this; simpa using this
  | false => rw [hv] at this; simpa using this
theorem ranR_len (l : List (UInt8 × UInt8)) : (ranR l).1.length ≤ 5 * l.length := by
  unfold ranR
  split
  · exact flat_len l
  · simp
theorem canR_ff (l : List (UInt8 × UInt8)) : canR (fun j => !(hasI l (j : Nat) == false)) 256 = canR (fun j => hasI l (j : Nat)) 256 := canR_congr fun j _ => by cases hasI l (j : Int) <;> rfl
theorem canR_tt (l : List (UInt8 × UInt8)) : canR (fun j => !(hasI l (j : Nat) == true)) 256 = canR (fun j => !(hasI l (j : Nat))) 256 := canR_congr fun j _ => by cases hasI l (j : Int) <;> rfl
theorem ofSet_holds : Holds k_ofSet := con_run (xs := [k_Ranges, k_sameSet, k_writable, k_quoted, k_rranges]) (hold1 rRanges_holds (hold1 sameSet_holds (hold1 writable_holds (hold1 quoted_holds (hold1 rranges_holds hold0))))) fun aa hp r h => by
  split at h
  case h_2 => cases h
  obtain ⟨g, rfl⟩ := xo h
  obtain ⟨l, rfl, hl⟩ := isRs_of g
  refine Runs.by (ofSet_e · _) ?_
  have hm := canR_len (fun j => !(hasI l (j : Nat))) 256
  have hc := canR_len (fun j => hasI l (j : Nat)) 256
  simp only [decRs_enc, canR_ff, canR_tt, isRs_enc hl, isRs_enc (x := canR (fun j => hasI l (j : Nat)) 256) (by omega), isRs_enc (x := canR (fun j => !(hasI l (j : Nat))) 256) (by omega), encRs_len, Bool.and_self, cond_true]
  unfold setR
  by_cases h1 : canR (fun j => hasI l (j : Nat)) 256 = l
  · rw [decide_eq_true h1.symm, if_neg (by simpa using h1)]
    have hl2 : l.length ≤ 256 := by rw [h1] at hc; exact hc
    generalize hmm : canR (fun j => !(hasI l (j : Nat))) 256 = m at *
    have r1 := ranR_len l
    have r2 := ranR_len m
    simp only [size_mk, app_mk, imax, List.length_append, List.length_cons, List.length_nil, Bool.not_true, cond_false]
    simp (disch := omega) only [ev_le_t, cond_true]
    -- behind the test of a single byte
    have tail : RunsF (cfg [k_Ranges, k_sameSet, k_writable, k_quoted, k_rranges]) (fun _ =>
        cond ((m.length : Int) == 1) (cond (ltI 0 (m.length : Int)) (cond (cI 0 (atL (encRs m) 0) == 10) (cond (ltI 0 (m.length : Int)) (cond (cI 1 (atL (encRs m) 0) == 10) (some [.str (mk [46]), .bool true])
          (cond (ranR l).2 (some [.str (mk ([91] ++ (ranR l).1 ++ [93])), .bool true]) (cond (ranR m).2 (cond (ltI 0 (m.length : Int)) (some [.str (mk ([91, 94] ++ (ranR m).1 ++ [93])), .bool true]) (some [.str (mk []), .bool false])) (some [.str (mk []), .bool false])))) none)
          (cond (ranR l).2 (some [.str (mk ([91] ++ (ranR l).1 ++ [93])), .bool true]) (cond (ranR m).2 (cond (ltI 0 (m.length : Int)) (some [.str (mk ([91, 94] ++ (ranR m).1 ++ [93])), .bool true]) (some [.str (mk []), .bool false])) (some [.str (mk []), .bool false])))) none)
          (cond (ranR l).2 (some [.str (mk ([91] ++ (ranR l).1 ++ [93])), .bool true]) (cond (ranR m).2 (cond (ltI 0 (m.length : Int)) (some [.str (mk ([91, 94] ++ (ranR m).1 ++ [93])), .bool true]) (some [.str (mk []), .bool false])) (some [.str (mk []), .bool false]))))
        (cells2 (if m = [(10, 10)] then ([46], true) else if (ranR l).2 then ([91] ++ (ranR l).1 ++ [93], true) else if (ranR m).2 ∧ 0 < m.length then ([91, 94] ++ (ranR m).1 ++ [93], true) else ([], false))) := by
      have T2 : RunsF (cfg [k_Ranges, k_sameSet, k_writable, k_quoted, k_rranges]) (fun _ => cond (ranR l).2 (some [.str (mk ([91] ++ (ranR l).1 ++ [93])), .bool true]) (cond (ranR m).2 (cond (ltI 0 (m.length : Int)) (some [.str (mk ([91, 94] ++ (ranR m).1 ++ [93])), .bool true]) (some [.str (mk []), .bool false])) (some [.str (mk []), .bool false])))
          (cells2 (if (ranR l).2 then ([91] ++ (ranR l).1 ++ [93], true) else if (ranR m).2 ∧ 0 < m.length then ([91, 94] ++ (ranR m).1 ++ [93], true) else ([], false))) := by
        cases (ranR l).2 with
        | true => exact .ret
        | false =>
          cases (ranR m).2 with
          | true =>
            by_cases h0 : 0 < m.length
            · rw [ev_lt_t (by omega), if_neg (by decide), if_pos ⟨rfl, h0⟩]; exact .ret
            · rw [ev_lt_f (by omega), if_neg (by decide), if_neg (fun h => h0 h.2)]; exact .ret
          | false => rw [if_neg (by decide), if_neg (fun h => by cases h.1)]; exact .ret
      by_cases hm1 : m.length = 1
      · match m, hm1 with
        | [(a, b)], _ =>
          have e1 : atL (encRs [(a, b)]) 0 = [.int .u8 a.toNat, .int .u8 b.toNat] := rfl
          have ea := beq_nat8 a 10 (by decide)
          have eb := beq_nat8 b 10 (by decide)
          rw [show ((10 : Nat) : Int) = 10 from rfl, show UInt8.ofNat 10 = 10 from rfl] at ea eb
          rw [e1, cI0, cI1, ea, eb]
          by_cases ha : a = 10
          · by_cases hb : b = 10
            · subst ha hb
              rw [if_pos rfl]
              exact .ret
            · rw [decide_eq_true ha, decide_eq_false hb, if_neg (by intro h; simp only [List.cons.injEq, Prod.mk.injEq, and_true] at h; exact hb h.2)]
              exact T2
          · rw [decide_eq_false ha, if_neg (by intro h; simp only [List.cons.injEq, Prod.mk.injEq, and_true] at h; exact ha h.1)]
            exact T2
      · rw [ev_eq_f (a := (m.length : Int)) (by omega), if_neg (by intro h; rw [h] at hm1; exact hm1 rfl)]
        exact T2
    by_cases h2 : l.length = 1
    · have ha : atL (encRs l) 0 = [.int .u8 (l.getD 0 (0, 0)).1.toNat, .int .u8 (l.getD 0 (0, 0)).2.toNat] := rs_at l (i := 0) (by omega)
      rw [ha, cI0, cI1, beq_u8, okB_u8, u8_of, ev_eq_t (a := (l.length : Int)) (by omega), ev_lt_t (a := 0) (b := (l.length : Int)) (by omega)]
      simp only [cond_true, bl_mk, Bool.and_self]
      by_cases h3 : (l.getD 0 (0, 0)).1 = (l.getD 0 (0, 0)).2
      · rw [decide_eq_true h3]
        cases h4 : visB (l.getD 0 (0, 0)).1 with
        | true => rw [if_pos ⟨h2, h3, rfl⟩]; exact .ret
        | false => rw [if_neg (by simp)]; exact tail
      · rw [decide_eq_false h3, if_neg (fun ⟨_, h, _⟩ => h3 h)]; exact tail
    · rw [ev_eq_f (a := (l.length : Int)) (by omega), if_neg (fun ⟨h, _⟩ => h2 h)]
      exact tail
  · rw [decide_eq_false (fun h => h1 h.symm), if_pos h1]
    exact .ret
theorem dig_all : ∀ m : Fin 100, (cond (leI 10 (m.val : Int)) ([[L.int IntKind.u8 (wrapI IntKind.u8 (wrapI IntKind.i64 (48 + Int.tmod (IntKind.wrap IntKind.i64 (Int.tdiv (m.val : Int) 10)) 10)))], [L.int IntKind.u8 (wrapI IntKind.u8 (wrapI IntKind.i64 (48 + Int.tmod (m.val : Int) 10)))]].map (fun c => UInt8.ofNat (Int.toNat (cI 0 c)))) ([[L.int IntKind.u8 (wrapI IntKind.u8 (wrapI IntKind.i64 (48 + (m.val : Int))))]].map (fun c => UInt8.ofNat (Int.toNat (cI 0 c))))) = decN (m.val : Int) := by decide +kernel
theorem digits_holds : Holds k_digits := con_run (xs := []) hold0 fun aa hp r h => by
  split at h
  case h_2 => cases h
  rename_i n
  obtain ⟨g, rfl⟩ := xo h
  rw [Bool.and_eq_true] at g
  have g1 := leI_t g.1
  have g2 := leI_t g.2
  obtain ⟨m, rfl⟩ : ∃ m : Nat, n = m := ⟨n.toNat, by omega⟩
  have hd := dig_all ⟨m, by omega⟩
  refine Runs.by (digits_e · _) ?_
  simp only [] at hd
  rw [← hd]
  cases leI 10 (m : Int) <;> exact .ret
theorem suffix_holds : Holds k_suffix := con_run (xs := [k_digits]) (hold1 digits_holds hold0) fun aa hp r h => by
  split at h
  case h_2 => cases h
  rename_i mn mx
  obtain ⟨g, rfl⟩ := xo h
  simp only [Bool.and_eq_true] at g
  obtain ⟨⟨g1, g2⟩, g3, g4⟩ := g
  refine Runs.by (suffix_e · _ _) ?_
  have d1 := decN_len mn
  have d2 := decN_len mx
  have ec : (mx == mn) = (mn == mx) := by rw [Bool.eq_iff_iff, beq_iff_eq, beq_iff_eq]; exact ⟨Eq.symm, Eq.symm⟩
  rw [g1, g2, g4, ec]
  simp only [size_mk, app_mk, imax, List.length_append, List.length_cons, List.length_nil]
  simp (disch := omega) only [ev_le_t, cond_true, Bool.and_self, Bool.and_true]
  have g3' := leI_t g3
  unfold sufP
  cases h1 : mn == 0 <;> cases h2 : mn == 1 <;> cases h3 : mx == -1 <;> cases h4 : mx == 1 <;> cases h5 : mn == mx <;> (try exact .ret) <;>
    (have h6 : leI 0 mx = true := ev_le_t (by rw [beq_false_int] at h3; omega)
     rw [h6]; exact .ret)
/-! ### lengths -/
theorem setR_len (l : List (UInt8 × UInt8)) : (setR l).1.length ≤ 2000 := by
  unfold setR
  split
  · simp
  · rename_i h
    have h := Decidable.of_not_not h
    have h1 := canR_len (fun j => hasI l (j : Nat)) 256
    rw [h] at h1
    split
    · have := wrB_len (l.getD 0 (0, 0)).1 spcs
      show (wrB (l.getD 0 (0, 0)).1 spcs).length ≤ 2000
      omega
    · split
      · simp
      · split
        · have := ranR_len l
          show ([91] ++ (ranR l).1 ++ [93]).length ≤ 2000
          simp; omega
        · split
          · have h2 := canR_len (fun j => !(hasI l (j : Nat))) 256
            have := ranR_len (canR (fun j => !(hasI l (j : Nat))) 256)
            show ([91, 94] ++ (ranR (canR (fun j => !(hasI l (j : Nat))) 256)).1 ++ [93]).length ≤ 2000
            simp; omega
          · simp
theorem canP_eq (x : Rx) : canP x = if x.kind = 1 then setR x.set else if x.kind = 5 then ([94], true) else if x.kind = 6 then ([36], true) else if x.kind = 7 then ([92, 98], true)
    else if x.kind = 4 then canH x.mn x.mx x.subs
    else if x.kind = 2 ∧ x.subs.length = 1 then ([], false) else canL x.kind x.subs [] true := by cases x; rw [canP]; rfl
theorem canL_len (k : Int) : ∀ (l : List Rx) (acc : List UInt8) (f : Bool), (∀ y ∈ l, (canP y).1.length + 10 ≤ 2030 * y.nodes) → (canL k l acc f).1.length ≤ acc.length + 2030 * nodesL l
  | [], acc, f, _ => by rw [canL]; simp
  | y :: l, acc, f, h => by
    rw [canL, nodesL]
    have h1 := h y List.mem_cons_self
    have h2 := wrapP_len (ksOf k) y (canP y).1
    split
    · have ih := canL_len k l (acc ++ (if k = 3 ∧ f = false then [124] else []) ++ wrapP (ksOf k) y (canP y).1) false fun z hz => h z (List.mem_cons_of_mem _ hz)
      have h3 : (if k = 3 ∧ f = false then ([124] : List UInt8) else []).length ≤ 1 := by split <;> simp
      simp only [List.length_append] at ih
      omega
    · simp
theorem canP_len : ∀ (n : Nat) (x : Rx), x.lev ≤ n → (canP x).1.length + 10 ≤ 2030 * x.nodes
  | 0, x, h => (no_lev h).elim
  | n + 1, x, h => by
    have hs : ∀ y ∈ x.subs, (canP y).1.length + 10 ≤ 2030 * y.nodes := fun y hy => canP_len n y (by have := lev_sub hy; omega)
    have hp := setR_len x.set
    have hL := canL_len x.kind x.subs [] true hs
    have hsuf := sufP_len x.mn x.mx
    rw [canP_eq, nodes_eq]
    split
    · omega
    · split
      · simp; omega
      · split
        · simp; omega
        · split
          · simp; omega
          · split
            · cases hsub : x.subs with
              | nil => rw [canH]; simp; omega
              | cons y l =>
                have h1 := hs y (by rw [hsub]; exact List.mem_cons_self)
                have h2 := wrapP_len [2, 3, 4] y (canP y).1
                rw [canH, nodesL]
                simp only [List.length_append]
                omega
            · split
              · simp; omega
              · simp at hL; omega
theorem inner_holds {n : Nat} (hC : Holds (k_canonical n)) : Holds (k_inner n) := con_run (xs := [k_canonical n]) (hold1 hC hold0) fun aa hp r h => by
  split at h
  case h_2 => cases h
  rename_i k a0 a1 a2 a3 a4
  obtain ⟨g, rfl⟩ := xo h
  have g' := g
  simp only [Bool.and_eq_true] at g
  obtain ⟨⟨g1, g2⟩, g3, g4, g5⟩ := g
  rw [Bool.and_eq_true] at g'
  obtain ⟨x, rfl, rfl, rfl, rfl, rfl, ho, hl⟩ := isX5 g3
  refine Runs.by (inner_e · _ _ _ _ _ _ _) ?_
  rw [g'.2]
  simp only [dec5] at g5 ⊢
  have hn := Nat.le_of_ble_eq_true g5
  have hlen := canP_len _ x (Nat.le_refl _)
  have k1 := leI_t g1
  have k2 := leI_t g2
  simp only [size_mk, app_mk, imax, List.length_append, List.length_cons, List.length_nil]
  simp (disch := omega) only [ev_le_t, cond_true]
  unfold wrapP ksOf
  have hk : k = 2 ∨ k = 3 ∨ k = 4 := by omega
  rcases hk with rfl | rfl | rfl
  · by_cases h3 : x.kind = 3
    · rw [ev_eq_t h3]; exact .ret' (by simp [h3])
    · rw [ev_eq_f h3]
      by_cases h2 : x.kind = 2
      · rw [ev_eq_t h2]; exact .ret' (by simp [h2])
      · rw [ev_eq_f h2]; exact .ret' (by simp [h2, h3])
  · by_cases h3 : x.kind = 3
    · rw [ev_eq_t h3]; exact .ret' (by simp [h3])
    · rw [ev_eq_f h3]; exact .ret' (by simp [h3])
  · by_cases h3 : x.kind = 3
    · rw [ev_eq_t h3]; exact .ret' (by simp [h3])
    · rw [ev_eq_f h3]
      by_cases h2 : x.kind = 2
      · rw [ev_eq_t h2]; exact .ret' (by simp [h2])
      · rw [ev_eq_f h2]
        by_cases h4 : x.kind = 4
        · rw [ev_eq_t h4]; exact .ret' (by simp [h4])
        · rw [ev_eq_f h4]; exact .ret' (by simp [h2, h3, h4])
theorem canonical_loop {m : Nat} {x : Rx} (ho : x.ok) (hl : x.lev ≤ m + 1) (hs : ∀ y ∈ x.subs, nodeS y = 0) (hn : nodesL x.subs ≤ 1000) (hk : x.kind = 2 ∨ x.kind = 3) : ∀ (k i : Nat) (acc : List UInt8), i + k = x.subs.length → acc.length + 2030 * nodesL (x.subs.drop i) ≤ 2030000 →
    Runs (cfg [k_ofSet, k_inner m, k_suffix]) (canonical_q16 (mk acc) (i : Nat) x.kind (encRs x.set) x.mn x.mx (x.subs.map encX)) [.str (mk (canL x.kind (x.subs.drop i) acc (decide (i = 0))).1), .bool (canL x.kind (x.subs.drop i) acc (decide (i = 0))).2]
  | 0, i, acc, h, _ => by
    refine Runs.by (canonical_p16 · _ _ _ _ _ _ _ _) ?_
    simp (disch := omega) only [List.length_map, ev_lt_f, cond_false]
    rw [drop_end (by omega), canL]
    exact .ret
  | k + 1, i, acc, h, ha => by
    refine Runs.by (canonical_p16 · _ _ _ _ _ _ _ _) ?_
    have hi : i < x.subs.length := by omega
    have hsl := ok_subs ho
    have m1 := subs_in ho hl _ (mem_getD hi)
    have m2 := hs _ (mem_getD hi)
    have m3 := nodesL_mem (mem_getD hi)
    have m4 := canP_len _ (x.subs.getD i default) (Nat.le_refl _)
    have m5 := wrapP_len (ksOf x.kind) (x.subs.getD i default) (canP (x.subs.getD i default)).1
    rw [nodesL_drop hi] at ha
    simp (disch := omega) only [List.length_map, ev_lt_t, ev_le_t, cond_true, Bool.and_self, xs_at, el_enc, w64, isX_enc m1.1 m1.2, decX_enc, right_beq m2, ev_blt, size_mk, app_mk, imax, List.length_append, List.length_cons, List.length_nil]
    rw [drop_at default hi, canL]
    cases hc : (canP (x.subs.getD i default)).2 with
    | false => exact .ret
    | true =>
      rw [if_pos rfl]
      simp only [Bool.not_true, cond_false]
      have ih := fun acc' h' => canonical_loop ho hl hs hn hk k (i + 1) acc' (by omega) h'
      have e0 : decide (i + 1 = 0) = false := by simp
      rw [e0] at ih
      by_cases h3 : x.kind = 3
      · rw [ev_eq_t h3]
        by_cases h0 : i = 0
        · subst h0
          rw [ev_lt_f (by omega), if_neg (by simp)]
          simp only [cond_false, cond_true, List.append_nil]
          exact .go (by simpa using ih (acc ++ wrapP (ksOf x.kind) (x.subs.getD 0 default) (canP (x.subs.getD 0 default)).1) (by rw [List.length_append]; omega))
        · rw [ev_lt_t (by omega), if_pos ⟨h3, by simp [h0]⟩]
          simp only [cond_true]
          exact .go (by have := ih (acc ++ [124] ++ wrapP (ksOf x.kind) (x.subs.getD i default) (canP (x.subs.getD i default)).1) (by simp only [List.length_append, List.length_cons, List.length_nil]; omega); push_cast at this; exact this)
      · rw [ev_eq_f h3, if_neg (fun h => h3 h.1)]
        simp only [cond_false, List.append_nil]
        exact .go (by simpa using ih (acc ++ wrapP (ksOf x.kind) (x.subs.getD i default) (canP (x.subs.getD i default)).1) (by rw [List.length_append]; omega))
theorem canonical_holds : ∀ n, Holds (k_canonical n)
  | 0 => cX1t_of (xs := []) hold0 fun x ho hl hr hn => (no_lev hl).elim
  | n + 1 => cX1t_of (xs := [k_ofSet, k_inner n, k_suffix]) (hold1 ofSet_holds (hold1 (inner_holds (canonical_holds n)) (hold1 suffix_holds hold0))) fun x ho hl hr hn => by
    obtain ⟨hf, hc, hs⟩ := right_of hr
    obtain ⟨f1, f2, f3, f4, f5, f6, f7, f8⟩ := hf
    refine Runs.by (canonical_e · _ _ _ _ _ _) ?_
    have hn' : nodesL x.subs ≤ 1000 := by rw [nodes_eq] at hn; omega
    rw [isRs_enc (ok_set ho), decRs_enc, canP_eq x, List.length_map]
    by_cases k1 : x.kind = 1
    · rw [ev_eq_t k1, if_pos k1]; exact .ret
    · rw [ev_eq_f k1, if_neg k1]
      by_cases k5 : x.kind = 5
      · rw [ev_eq_t k5, if_pos k5]; exact .ret
      · rw [ev_eq_f k5, if_neg k5]
        by_cases k6 : x.kind = 6
        · rw [ev_eq_t k6, if_pos k6]; exact .ret
        · rw [ev_eq_f k6, if_neg k6]
          by_cases k7 : x.kind = 7
          · rw [ev_eq_t k7, if_pos k7]; exact .ret
          · rw [ev_eq_f k7, if_neg k7]
            by_cases k4 : x.kind = 4
            · rw [ev_eq_t k4, if_pos k4]
              have hl1 := f5 k4
              match hsub : x.subs, hl1 with
              | [y], _ =>
                have hy : y ∈ x.subs := by rw [hsub]; exact List.mem_cons_self
                have m1 := subs_in ho hl y hy
                have m2 := hs y hy
                have m3 := nodesL_mem hy
                have m4 := canP_len _ y (Nat.le_refl _)
                have m5 := wrapP_len [2, 3, 4] y (canP y).1
                have m6 := sufP_len x.mn x.mx
                have ea : atL ([y].map encX) 0 = encX y := rfl
                have eks : ksOf x.kind = [2, 3, 4] := by unfold ksOf; rw [if_neg (by omega), if_pos k4]
                unfold cntP at hc
                have b1 : 0 ≤ x.mn ∧ x.mn ≤ 99 ∧ -1 ≤ x.mx ∧ x.mx ≤ 99 := by omega
                obtain ⟨b1, b2, b3, b4⟩ := b1
                rw [ea, el_enc, decX_enc, eks, isX_enc m1.1 m1.2, right_beq m2, canH]
                simp only [size_mk, app_mk, imax, List.length_cons, List.length_nil]
                simp (disch := omega) only [dupN_eq, both_self, ev_lt_t, ev_le_t, ev_blt, cond_true, Bool.and_self]
                exact .ret
            · rw [ev_eq_f k4, if_neg k4]
              by_cases k2 : x.kind = 2
              · rw [ev_eq_t k2]
                by_cases h1 : x.subs.length = 1
                · rw [ev_eq_t (a := (x.subs.length : Int)) (b := 1) (by omega), if_pos ⟨k2, h1⟩]; exact .ret
                · rw [ev_eq_f (a := (x.subs.length : Int)) (b := 1) (by omega), if_neg (fun h => h1 h.2)]
                  exact .go (by simpa using canonical_loop ho hl hs hn' (.inl k2) x.subs.length 0 [] (by omega) (by simp; omega))
              · rw [ev_eq_f k2, if_neg (fun h => k2 h.1)]
                exact .go (by simpa using canonical_loop ho hl hs hn' (.inr (by omega)) x.subs.length 0 [] (by omega) (by simp; omega))
theorem rPrint_holds : Holds k_rPrint := cX1_of (xs := [k_rRight, k_canonical 12]) (hold1 rRight_holds (hold1 (canonical_holds 12) hold0)) fun x ho hl => by
  refine Runs.by (rPrint_e · _ _ _ _ _) ?_
  rw [dec5, is5 ho hl]
  unfold printR
  by_cases h : rightS x = 0
  · have h' : (rightS x != 0) = false := ev_ne_f h
    rw [h', if_neg (by simp [h])]
    have hn := rightS_node h
    have hr := h
    unfold rightS at hr
    rw [ev_ne_f hn, cond_false] at hr
    have hb : (ltI 40 (x.nodes : Nat) || ltI 12 (x.lev : Nat)) = false := by
      cases hb : (ltI 40 (x.nodes : Nat) || ltI 12 (x.lev : Nat)) with
      | true => rw [hb] at hr; cases hr
      | false => rfl
    rw [Bool.or_eq_false_iff] at hb
    have b1 := ltI_f hb.1
    have b2 := ltI_f hb.2
    have hi := is5 (n := 12) ho (by omega)
    rw [hi, right_beq hn]
    simp (disch := omega) only [ev_blt, cond_true, cond_false, Bool.and_self, size_mk]
    cases ht : (canP x).2 with
    | false => rw [if_pos (.inl rfl)]; exact .ret
    | true =>
      simp only [Bool.not_true, cond_false]
      by_cases h3 : 300 < (canP x).1.length
      · rw [ev_lt_t (by omega), if_pos (.inr h3)]; exact .ret
      · rw [ev_lt_f (by omega), if_neg (by simp; omega)]; exact .ret
  · rw [ev_ne_t h, if_pos h]; exact .ret
end Go.Ab
namespace Go.Ab
open Go.Proofs

theorem resc_holds : Holds k_resc := con_run (xs := [k_inText]) (hold1 inText_holds hold0) fun aa hp r h => by
  split at h
  case h_2 => cases h
  obtain ⟨g, rfl⟩ := xo h
  obtain ⟨b, rfl⟩ := okB_of g
  refine Runs.by (resc_e · _) ?_
  rw [q110, q116, q100, q119, q45, g, u8_of, bl_mk]
  unfold pEsc
  by_cases h1 : b = 110
  · rw [decide_eq_true h1, if_pos h1]; exact .ret
  · rw [decide_eq_false h1, if_neg h1]
    by_cases h2 : b = 116
    · rw [decide_eq_true h2, if_pos h2]; exact .ret
    · rw [decide_eq_false h2, if_neg h2]
      by_cases h3 : b = 100
      · rw [decide_eq_true h3, if_pos h3]; exact .ret
      · rw [decide_eq_false h3, if_neg h3]
        by_cases h4 : b = 119
        · rw [decide_eq_true h4, if_pos h4]; exact .ret
        · rw [decide_eq_false h4, if_neg h4]
          by_cases h5 : b = 45
          · rw [decide_eq_true h5, if_pos (.inl h5)]; exact .ret
          · rw [decide_eq_false h5]
            by_cases h6 : b ∈ ([92, 46, 42, 43, 63, 40, 41, 91, 93, 123, 125, 124, 94, 36] : List UInt8)
            · rw [decide_eq_true h6, if_pos (.inr h6)]; exact .ret
            · rw [decide_eq_false h6, if_neg (fun h => h.elim h5 h6)]; exact .ret
theorem rcls_holds : Holds k_rcls := con_run (xs := []) hold0 fun aa hp r h => by
  split at h
  case h_2 => cases h
  rename_i s a
  obtain ⟨g, rfl⟩ := xo h
  obtain ⟨l, rfl⟩ := str_cases s
  obtain ⟨m, cur, rfl, hA, hl⟩ := inS_of g
  refine Runs.by (rcls_e · _ _) ?_
  have hn := hA.len
  rw [hA.rest, wp1 (by omega), size_mk]
  match cur, hA, hn with
  | [], hA, hn => rw [List.length_nil] at hn; rw [ev_lt_f (by omega)]; exact .ret
  | [c], hA, hn => rw [List.length_cons, List.length_nil] at hn; rw [ev_lt_f (by omega)]; exact .ret
  | c :: d :: r, hA, hn =>
    rw [List.length_cons, List.length_cons] at hn
    rw [hA.get, hA.next.get, q92, q100, q119]
    simp (disch := omega) only [ev_lt_t, ev_le_t, Bool.and_self, cond_true]
    rw [show isCls (c :: d :: r) = (decide (c = 92) && (decide (d = 100) || decide (d = 119))) from rfl]
    by_cases h1 : c = 92
    · rw [decide_eq_true h1]
      by_cases h2 : d = 100
      · rw [decide_eq_true h2]; exact .ret
      · rw [decide_eq_false h2]; exact .ret
    · rw [decide_eq_false h1]; exact .ret
theorem rone_holds : Holds k_rone := con_run (xs := [k_resc, k_inText]) (hold1 resc_holds (hold1 inText_holds hold0)) fun aa hp r h => by
  split at h
  case h_2 => cases h
  rename_i s a
  obtain ⟨g, rfl⟩ := xo h
  obtain ⟨l, rfl⟩ := str_cases s
  obtain ⟨m, cur, rfl, hA, hl⟩ := inS_of g
  refine Runs.by (rone_e · _ _) ?_
  have hn := hA.len
  rw [hA.rest, wp1 (by omega), wp2 (by omega), size_mk]
  match cur, hA, hn with
  | [], hA, hn => rw [List.length_nil] at hn; rw [ev_le_t (a := (l.length : Int)) (by omega)]; exact .ret
  | c :: r, hA, hn =>
    rw [List.length_cons] at hn
    rw [hA.get, l32, l126, q92, okB_u8, u8_of, bl_mk]
    simp (disch := omega) only [ev_lt_t, ev_le_t, ev_le_f (a := (l.length : Int)) (b := (m : Int)), Bool.and_self, cond_true, cond_false]
    by_cases h1 : c < 32
    · rw [decide_eq_true h1, pOne, if_pos (.inl h1)]; exact .ret
    · rw [decide_eq_false h1]
      by_cases h2 : 126 < c
      · rw [decide_eq_true h2, pOne, if_pos (.inr h2)]; exact .ret
      · rw [decide_eq_false h2, pOne, if_neg (fun h => h.elim h1 h2)]
        by_cases h3 : c = 92
        · rw [decide_eq_true h3, if_pos h3]
          match r, hA, hn with
          | [], hA, hn => rw [List.length_nil] at hn; rw [ev_le_t (a := (l.length : Int)) (by omega)]; exact .ret
          | d :: r, hA, hn =>
            rw [List.length_cons] at hn
            have e := optE_at (x := (pEsc d).getD []) hA.next.next
            rw [hA.next.get, okB_u8, u8_of, pEscL]
            simp (disch := omega) only [ev_lt_t, ev_le_t, ev_le_f (a := (l.length : Int)) (b := ((m + 1 : Nat) : Int)), Bool.and_self, cond_true, cond_false]
            cases he : pEsc d with
            | none => exact .ret
            | some q =>
              rw [he] at e
              refine .ret' ?_
              rw [Option.map_some, show optE l.length (some (q, r)) = ((m + 1 + 1 : Nat) : Int) from e]; rfl
        · rw [decide_eq_false h3, if_neg h3]
          rw [show ([92, 91, 93, 94, 45] : List UInt8) = insB from rfl]
          by_cases h4 : c ∈ insB
          · rw [decide_eq_true h4, if_pos h4]; exact .ret
          · rw [decide_eq_false h4, if_neg h4, optE_at hA.next]; exact .ret
/-- What the end of a set says. -/
def setCells (n : Nat) (b : Bool) (o : Option (Rng × List UInt8)) : List L :=
  [.int .i64 (cond (o.map fun p => (canR (fun j => !(hasI p.1 (j : Nat) == b)) 256, p.2)).isSome 1 0), .lst 48 (encRs (optR (o.map fun p => (canR (fun j => !(hasI p.1 (j : Nat) == b)) 256, p.2)))), .int .i64 0, .int .i64 0, .lst 25 [],
    .int .i64 (optE n (o.map fun p => (canR (fun j => !(hasI p.1 (j : Nat) == b)) 256, p.2)))]
theorem encRs_app (a b : Rng) : encRs a ++ encRs b = encRs (a ++ b) := by simp [encRs]
theorem pEsc_few {c : UInt8} {l : Rng} (h : pEsc c = some l) : l.length ≤ 4 := by
  unfold pEsc at h
  repeat' split at h
  all_goals (cases h <;> simp)
theorem pOne_few {l : List UInt8} {x : Rng} {t : List UInt8} (h : pOne l = some (x, t)) : x.length ≤ 4 := by
  cases l with
  | nil => cases h
  | cons c r =>
    rw [pOne] at h
    split at h
    · cases h
    · split at h
      · cases r with
        | nil => cases h
        | cons d r' =>
          rw [pEscL] at h
          cases he : pEsc d with
          | none => rw [he] at h; cases h
          | some q => rw [he] at h; cases h; exact pEsc_few he
      · split at h
        · cases h
        · cases h; simp
theorem rset_loop {l : List UInt8} (hl : l.length ≤ 1000) (b : Bool) (h0 h2 h3 : Int) (hh2 hh3 : List (List L)) : ∀ (n m : Nat) (cur : List UInt8) (acc : Rng), At l m cur → cur.length + 1 ≤ n → acc.length ≤ 4 * m →
    Runs (cfg [k_rone, k_rcls, k_Ranges]) (rset_q7 (mk l) (m : Int) b h0 h2 h3 (encRs acc) hh2 hh3) (setCells l.length b (pSetL n acc cur))
  | 0, m, cur, acc, hA, hn, _ => by omega
  | n + 1, m, [], acc, hA, hn, ha => by
    have hlen := hA.len
    rw [List.length_nil] at hlen
    refine Runs.by (rset_p7 · _ _ _ _ _ _ _ _ _) ?_
    rw [size_mk, ev_lt_f (b := (l.length : Int)) (by omega), ev_le_t (a := (l.length : Int)) (by omega), pSetL]
    exact .ret
  | n + 1, m, c :: r, acc, hA, hn, ha => by
    have hlen := hA.len
    rw [List.length_cons] at hlen hn
    refine Runs.by (rset_p7 · _ _ _ _ _ _ _ _ _) ?_
    rw [hA.get, n93, hA.rest, inS_at hA hl, size_mk, pSetL]
    simp (disch := omega) only [encRs_len, ev_lt_t (a := (m : Int)), ev_le_t (a := 0) (b := (m : Int)), ev_le_f (a := (l.length : Int)) (b := (m : Int)), Bool.and_self, cond_true, cond_false]
    by_cases h93 : c = 93
    · rw [decide_eq_true h93, if_pos h93]
      simp only [Bool.not_true, cond_false]
      cases acc with
      | nil => rw [if_pos rfl]; exact .ret
      | cons q acc =>
        have e0 : (((q :: acc).length : Int) == 0) = false := ev_eq_f (by rw [List.length_cons]; omega)
        rw [if_neg (by simp), isRs_enc (by omega), e0, decRs_enc, wp1 (by omega)]
        unfold setCells
        rw [Option.map_some, optE_at hA.next]
        exact .ret
    · rw [decide_eq_false h93, if_neg h93]
      simp only [Bool.not_false, cond_true]
      cases hp : pOne (c :: r) with
      | none => rw [optE_none, ev_lt_t (by omega)]; exact .ret
      | some p =>
        obtain ⟨x, t⟩ := p
        have hB := hA.suf (suf_one _ x t hp)
        obtain ⟨l1, l2⟩ := pOne_len hp
        rw [List.length_cons] at l1
        have lf := pOne_few hp
        have hlB := hB.len
        rw [optE_at hB, optR_some]
        generalize hm1 : l.length - t.length = m1 at *
        have hx : 0 < x.length := by cases x with | nil => exact absurd rfl l2 | cons a b => simp
        rw [ev_lt_f (a := (m1 : Int)) (b := 0) (by omega), wp1 (by omega), roomN_t (n := acc.length + x.length) (by omega) (by omega)]
        have go := rset_loop hl b h0 h2 h3 hh2 hh3 n m1 t (acc ++ x) hB (by omega) (by rw [List.length_append]; omega)
        simp only [cond_false, cond_true, encRs_app]
        cases hc : isCls (c :: r) with
        | true =>
          rw [if_neg (by simp)]
          exact .go go
        | false =>
          simp only [Bool.not_false, cond_true, true_and]
          match t, hB, hlB, go, l1 with
          | [], hB, hlB, go, l1 =>
            rw [List.length_nil] at hlB
            rw [if_neg (by simp), ev_lt_f (a := (m1 : Int)) (by omega)]
            exact .go go
          | d :: u, hB, hlB, go, l1 =>
            rw [List.length_cons] at hlB l1
            rw [hB.get, q45, ev_lt_t (a := (m1 : Int)) (by omega), ev_le_t (a := 0) (b := (m1 : Int)) (by omega), List.tail_cons, List.head?_cons]
            simp only [Bool.and_self, cond_true]
            by_cases hd : d = 45
            · rw [decide_eq_true hd, if_pos (by rw [hd]), hB.next.rest, inS_at hB.next hl]
              simp only [cond_true]
              cases hcu : isCls u with
              | true => rw [if_pos rfl]; exact .ret
              | false =>
                rw [if_neg (by decide)]
                cases hq : pOne u with
                | none => rw [optE_none, ev_lt_t (a := -1) (by omega)]; exact .ret
                | some q =>
                  obtain ⟨y, v⟩ := q
                  have hC := hB.next.suf (suf_one _ y v hq)
                  obtain ⟨k1, k2⟩ := pOne_len hq
                  have hlC := hC.len
                  rw [optE_at hC, optR_some]
                  generalize hm2 : l.length - v.length = m2 at *
                  have hy : 0 < y.length := by cases y with | nil => exact absurd rfl k2 | cons a b => simp
                  have ax : atL (encRs x) 0 = [.int .u8 (loR x).toNat, .int .u8 (x.getD 0 (0, 0)).2.toNat] := rs_at x (i := 0) (by omega)
                  have ay : atL (encRs y) 0 = [.int .u8 (loR y).toNat, .int .u8 (y.getD 0 (0, 0)).2.toNat] := rs_at y (i := 0) (by omega)
                  rw [ax, ay, cI0, cI0, lt_u8, ev_lt_f (a := (m2 : Int)) (b := 0) (by omega), ev_lt_t (a := 0) (b := (x.length : Int)) (by omega), ev_lt_t (a := 0) (b := (y.length : Int)) (by omega), roomN_t (n := acc.length + 1) (by omega) (by omega)]
                  simp only [cond_false, cond_true]
                  by_cases hlt : loR y < loR x
                  · rw [decide_eq_true hlt, if_pos hlt]; exact .ret
                  · rw [decide_eq_false hlt, if_neg hlt]
                    have e1 : encRs acc ++ [[L.int IntKind.u8 ((loR x).toNat : Int), L.int IntKind.u8 ((loR y).toNat : Int)]] = encRs (acc ++ [(loR x, loR y)]) := by simp [encRs]
                    rw [e1]
                    exact .go (rset_loop hl b h0 h2 h3 hh2 hh3 n m2 v (acc ++ [(loR x, loR y)]) hC (by omega) (by rw [List.length_append, List.length_singleton]; omega))
            · rw [decide_eq_false hd, if_neg (fun h => hd (Option.some.inj h))]
              exact .go go
theorem rset_holds : Holds k_rset := con_run (xs := [k_rone, k_rcls, k_Ranges]) (hold1 rone_holds (hold1 rcls_holds (hold1 rRanges_holds hold0))) fun aa hp r h => by
  split at h
  case h_2 => cases h
  rename_i s a
  obtain ⟨g, rfl⟩ := xo h
  obtain ⟨l, rfl⟩ := str_cases s
  obtain ⟨m, c, r, rfl, hA, hl⟩ := inS1_of g
  refine Runs.by (rset_e · _ _) ?_
  have hn := hA.len
  rw [List.length_cons] at hn
  rw [hA.rest1, wp1 (by omega), wp1 (by omega), size_mk]
  have e : ∀ (b : Bool) (cur : List UInt8), decide (r.head? = some 94) = b → (if r.head? = some 94 then r.tail else r) = cur →
      [L.int .i64 (cond (pSet r).isSome 1 0), .lst 48 (encRs (optR (pSet r))), .int .i64 0, .int .i64 0, .lst 25 [], .int .i64 (optE l.length (pSet r))] = setCells l.length b (pSetL (r.length + 1) [] cur) := by
    rintro b cur rfl rfl
    rfl
  match r, hA, hn with
  | [], hA, hn =>
    rw [List.length_nil] at hn
    rw [ev_lt_f (a := ((m + 1 : Nat) : Int)) (by omega), e false [] rfl rfl]
    exact .go (rset_loop hl false 0 0 0 [] [] _ _ _ [] hA.next (by simp) (by simp))
  | d :: u, hA, hn =>
    rw [List.length_cons] at hn
    rw [hA.next.get, q94, ev_lt_t (a := ((m + 1 : Nat) : Int)) (by omega), ev_le_t (a := 0) (by omega)]
    simp only [Bool.and_self, cond_true]
    by_cases hd : d = 94
    · rw [decide_eq_true hd, e true u (by rw [hd]; rfl) (by rw [hd]; rfl)]
      exact .go (rset_loop hl true 0 0 0 [] [] _ _ _ [] hA.next.next (by simp) (by simp))
    · have hh : ¬ ((d :: u).head? = some 94) := fun h => hd (Option.some.inj h)
      rw [decide_eq_false hd, e false (d :: u) (decide_eq_false hh) (if_neg hh)]
      exact .go (rset_loop hl false 0 0 0 [] [] _ _ _ [] hA.next (by simp) (by simp))
theorem rbyte_holds : Holds k_rbyte := con_run (xs := []) hold0 fun aa hp r h => by
  split at h
  case h_2 => cases h
  obtain ⟨g, rfl⟩ := xo h
  exact Runs.by (rbyte_e · _) .ret
/-! ### numbers and bounds -/
/-- What the digits read so far can be. -/
def numB (d : Nat) (n : Int) : Prop := 0 ≤ n ∧ ((d = 0 ∧ n = 0) ∨ (d = 1 ∧ n ≤ 9) ∨ (d = 2 ∧ n ≤ 99) ∨ (d = 3 ∧ n ≤ 999) ∨ (d = 4 ∧ n ≤ 9999))
theorem pNumL_zero {n : Int} {d : Nat} {l : List UInt8} : pNumL 0 n d l = (n, d, l) := by cases l <;> rfl
def numCells (Ls : List UInt8) (z : Bool) (o : Int × Nat × List UInt8) : List L :=
  if o.2.1 = 0 ∨ 3 < o.2.1 ∨ (z = true ∧ 1 < o.2.1) then [.int .i64 0, .int .i64 (-1)] else [.int .i64 o.1, .int .i64 ((Ls.length : Int) - (o.2.2.length : Int))]
/-- Behind the last digit. -/
theorem rnum_end {Ls : List UInt8} {m d : Nat} {n : Int} {start cur : List UInt8} (hS : At Ls m start) (hA : At Ls (m + d) cur) (hl : Ls.length ≤ 1000) (hd : 0 < d → ∃ c r, start = c :: r) {C : Cfg} :
    RunsF C (fun G => cond (((m + d : Nat) : Int) == (m : Int)) (some [(.int IntKind.i64 (0)), (.int IntKind.i64 (-1))])
      (cond (ltI (wrapI IntKind.i64 ((m : Int) + 3)) ((m + d : Nat) : Int)) (some [(.int IntKind.i64 (0)), (.int IntKind.i64 (-1))])
        (cond (leI 0 (m : Int) && ltI (m : Int) (Ls.length : Int))
          (cond (byI (mk Ls) (m : Int) == 48)
            (cond (ltI (wrapI IntKind.i64 ((m : Int) + 1)) ((m + d : Nat) : Int)) (some [(.int IntKind.i64 (0)), (.int IntKind.i64 (-1))]) (some [(.int IntKind.i64 (n)), (.int IntKind.i64 (((m + d : Nat) : Int)))]))
            (some [(.int IntKind.i64 (n)), (.int IntKind.i64 (((m + d : Nat) : Int)))])) none)))
      (numCells Ls (decide (start.head? = some 48)) (n, d, cur)) := by
  have h1 := hS.len
  have h2 := hA.len
  show RunsF C _ (if d = 0 ∨ 3 < d ∨ (decide (start.head? = some 48) = true ∧ 1 < d) then [.int .i64 0, .int .i64 (-1)] else [.int .i64 n, .int .i64 ((Ls.length : Int) - (cur.length : Int))])
  rw [w64 (by omega) (by omega), wp1 (by omega)]
  by_cases h0 : d = 0
  · rw [ev_eq_t (by omega), if_pos (.inl h0)]; exact .ret
  · rw [ev_eq_f (by omega)]
    by_cases h3 : 3 < d
    · rw [ev_lt_t (a := (m : Int) + 3) (by omega), if_pos (.inr (.inl h3))]; exact .ret
    · obtain ⟨c, r, rfl⟩ := hd (by omega)
      rw [List.length_cons] at h1
      rw [ev_lt_f (a := (m : Int) + 3) (by omega), hS.get, q48, ev_le_t (a := 0) (b := (m : Int)) (by omega), ev_lt_t (a := (m : Int)) (b := (Ls.length : Int)) (by omega)]
      have e : ((Ls.length : Int) - (cur.length : Int)) = ((m + d : Nat) : Int) := by omega
      have eh : ((c :: r).head? = some 48) = (c = 48) := by simp
      by_cases hc : c = 48
      · rw [decide_eq_true hc]
        by_cases h4 : 1 < d
        · rw [ev_lt_t (by omega), if_pos (.inr (.inr ⟨decide_eq_true (by rw [eh]; exact hc), h4⟩))]; exact .ret
        · rw [ev_lt_f (by omega), if_neg (by rintro (h | h | ⟨_, h⟩) <;> omega)]
          exact .ret' (by rw [e])
      · rw [decide_eq_false hc, if_neg]
        · exact .ret' (by rw [e])
        · rintro (h | h | ⟨h, _⟩)
          · exact h0 h
          · exact h3 h
          · exact hc (by have := of_decide_eq_true h; rw [eh] at this; exact this)
theorem rnum_loop {Ls : List UInt8} (hl : Ls.length ≤ 1000) {m : Nat} {start : List UInt8} (hS : At Ls m start) : ∀ (k d : Nat) (n : Int) (cur : List UInt8), k + d = 4 → At Ls (m + d) cur → numB d n → (0 < d → ∃ c r, start = c :: r) → (d = 0 → start = cur) →
    Runs (cfg []) (rnum_q3 (mk Ls) (m : Int) n ((m + d : Nat) : Int)) (numCells Ls (decide (start.head? = some 48)) (pNumL k n d cur))
  | k, d, n, [], hk, hA, hb, hd, he => by
    refine Runs.by (rnum_p3 · _ _ _ _) ?_
    have h2 := hA.len
    rw [List.length_nil] at h2
    rw [size_mk, ev_lt_f (a := ((m + d : Nat) : Int)) (b := (Ls.length : Int)) (by omega), pNumL_nil]
    exact rnum_end hS hA hl hd
  | 0, d, n, c :: r, hk, hA, hb, hd, he => by
    refine Runs.by (rnum_p3 · _ _ _ _) ?_
    have h2 := hA.len
    rw [List.length_cons] at h2
    rw [size_mk, ev_lt_t (a := ((m + d : Nat) : Int)) (b := (Ls.length : Int)) (by omega), w64 (n := (m : Int) + 4) (by omega) (by omega), ev_lt_f (a := ((m + d : Nat) : Int)) (b := (m : Int) + 4) (by omega), pNumL_zero]
    exact rnum_end hS hA hl hd
  | k + 1, d, n, c :: r, hk, hA, hb, hd, he => by
    refine Runs.by (rnum_p3 · _ _ _ _) ?_
    have h2 := hA.len
    rw [List.length_cons] at h2
    rw [size_mk, hA.get, g48, g57, ev_lt_t (a := ((m + d : Nat) : Int)) (b := (Ls.length : Int)) (by omega), w64 (n := (m : Int) + 4) (by omega) (by omega), ev_lt_t (a := ((m + d : Nat) : Int)) (b := (m : Int) + 4) (by omega), ev_le_t (a := 0) (b := ((m + d : Nat) : Int)) (by omega)]
    simp only [Bool.and_self, cond_true]
    have hS' : ∃ c r, start = c :: r := by
      by_cases h0 : d = 0
      · exact ⟨c, r, he h0⟩
      · exact hd (by omega)
    by_cases h1 : 48 ≤ c
    · rw [decide_eq_true h1]
      by_cases h3 : c ≤ 57
      · have hg : digB c = true := by unfold digB; rw [decide_eq_true h1, decide_eq_true h3]; rfl
        have hgn := dig_num hg
        rw [decide_eq_true h3, pNumL_go hg]
        unfold numB at hb
        have hb' : 0 ≤ n ∧ n ≤ 999 := by omega
        have e1 : wrapI IntKind.i64 (wrapI IntKind.i64 (n * 10) + wrapI IntKind.i64 (wrapI IntKind.u8 ((c.toNat : Int) - 48))) = n * 10 + ((c.toNat : Int) - 48) := by
          rw [w8 (by omega) (by omega), w64 (n := n * 10) (by omega) (by omega), w64 (n := (c.toNat : Int) - 48) (by omega) (by omega), w64 (by omega) (by omega)]
        rw [e1, wp1 (by omega)]
        exact .go (rnum_loop hl hS k (d + 1) _ r (by omega) hA.next (by unfold numB; omega) (fun _ => hS') (fun h => by omega))
      · have hg : ¬ digB c = true := by unfold digB; rw [decide_eq_true h1, decide_eq_false h3]; simp
        rw [decide_eq_false h3, pNumL_stop hg]
        exact rnum_end hS hA hl hd
    · have hg : ¬ digB c = true := by unfold digB; rw [decide_eq_false h1]; simp
      rw [decide_eq_false h1, pNumL_stop hg]
      exact rnum_end hS hA hl hd
theorem rnum_holds : Holds k_rnum := con_run (xs := []) hold0 fun aa hp r h => by
  split at h
  case h_2 => cases h
  rename_i s a
  obtain ⟨g, rfl⟩ := xo h
  obtain ⟨l, rfl⟩ := str_cases s
  obtain ⟨m, cur, rfl, hA, hl⟩ := inS_of g
  refine Runs.by (rnum_e · _ _) ?_
  have := rnum_loop hl hA 4 0 0 cur rfl hA (by unfold numB; omega) (fun h => by omega) (fun _ => rfl)
  rw [hA.rest, size_mk]
  refine .go ?_
  have e : numCells l (decide (cur.head? = some 48)) (pNumL 4 0 0 cur) = [.int .i64 (optI (pNum cur)), .int .i64 (optE l.length (pNum cur))] := by
    unfold numCells pNum
    simp only [decide_eq_true_eq]
    split
    · rfl
    · rfl
  rw [← e]
  exact this
/-- Behind the first number of bounds. -/
def pBn2 (k : Int) (d : UInt8) (u : List UInt8) : Option ((Int × Int) × List UInt8) :=
  if d = 125 then some ((k, k), u) else if d ≠ 44 then none else match u with
    | [] => none
    | d :: v => if d = 125 then some ((k, -1), v) else match pNum (d :: v) with
      | none => none
      | some (k', w) => if w.head? = some 125 then some ((k, k'), w.tail) else none
theorem pBn_of {r u : List UInt8} {k : Int} {d : UInt8} (hp : pNum r = some (k, d :: u)) : pBn r = pBn2 k d u := by
  unfold pBn
  rw [hp]
  rfl
theorem rbr_holds : Holds k_rbr := con_run (xs := [k_rnum]) (hold1 rnum_holds hold0) fun aa hp r h => by
  split at h
  case h_2 => cases h
  rename_i s a
  obtain ⟨g, rfl⟩ := xo h
  obtain ⟨l, rfl⟩ := str_cases s
  obtain ⟨m, c, r, rfl, hA, hl⟩ := inS1_of g
  refine Runs.by (rbr_e · _ _) ?_
  have hn := hA.len
  rw [List.length_cons] at hn
  rw [hA.rest1, wp1 (m := m) (by omega), hA.next.rest, inS_at hA.next hl, size_mk]
  cases hp : pNum r with
  | none =>
    have e : pBn r = none := by unfold pBn; rw [hp]
    rw [e, optE_none, ev_lt_t (a := -1) (by omega)]; exact .ret
  | some p =>
    obtain ⟨k, t⟩ := p
    have hB := hA.next.suf (suf_num _ k t hp)
    have hlB := hB.len
    rw [optE_at hB, optI_some]
    generalize hm1 : l.length - t.length = m1 at *
    rw [ev_lt_f (a := (m1 : Int)) (b := 0) (by omega), wp1 (by omega), wp2 (by omega)]
    simp only [cond_true, cond_false]
    match t, hB, hlB, hp with
    | [], hB, hlB, hp =>
      have e : pBn r = none := by unfold pBn; rw [hp]
      rw [List.length_nil] at hlB
      rw [e, ev_le_t (a := (l.length : Int)) (by omega)]; exact .ret
    | d :: u, hB, hlB, hp =>
      have e := pBn_of hp
      unfold pBn2 at e
      rw [List.length_cons] at hlB
      rw [e, hB.get, q125, n44, ev_le_f (a := (l.length : Int)) (b := (m1 : Int)) (by omega), ev_le_t (a := 0) (b := (m1 : Int)) (by omega), ev_lt_t (a := (m1 : Int)) (by omega)]
      simp only [Bool.and_self, cond_true, cond_false]
      by_cases h1 : d = 125
      · rw [decide_eq_true h1, if_pos h1, optE_at hB.next]; exact .ret
      · rw [decide_eq_false h1, if_neg h1]
        by_cases h2 : d = 44
        · rw [decide_eq_true h2, if_neg (fun h => h h2)]
          match u, hB, hlB with
          | [], hB, hlB =>
            rw [List.length_nil] at hlB
            rw [ev_le_t (a := (l.length : Int)) (by omega)]; exact .ret
          | f :: v, hB, hlB =>
            rw [List.length_cons] at hlB
            rw [hB.next.get, q125, ev_le_f (a := (l.length : Int)) (b := ((m1 + 1 : Nat) : Int)) (by omega), ev_le_t (a := 0) (by omega), ev_lt_t (a := ((m1 + 1 : Nat) : Int)) (by omega), hB.next.rest, inS_at hB.next hl]
            simp only [Bool.and_self, cond_true, cond_false, Bool.not_true]
            by_cases h3 : f = 125
            · rw [decide_eq_true h3, if_pos h3, optE_at hB.next.next]; exact .ret
            · rw [decide_eq_false h3, if_neg h3]
              cases hq : pNum (f :: v) with
              | none => rw [optE_none, ev_lt_t (a := -1) (by omega)]; exact .ret
              | some q =>
                obtain ⟨k', w⟩ := q
                have hC := hB.next.suf (suf_num _ k' w hq)
                have hlC := hC.len
                rw [optE_at hC, optI_some]
                generalize hm2 : l.length - w.length = m2 at *
                rw [ev_lt_f (a := (m2 : Int)) (b := 0) (by omega), wp1 (by omega)]
                simp only [cond_true, cond_false]
                match w, hC, hlC with
                | [], hC, hlC =>
                  rw [List.length_nil] at hlC
                  rw [ev_le_t (a := (l.length : Int)) (by omega), if_neg (by simp)]; exact .ret
                | f' :: w', hC, hlC =>
                  rw [List.length_cons] at hlC
                  rw [hC.get, n125, ev_le_f (a := (l.length : Int)) (b := (m2 : Int)) (by omega), ev_le_t (a := 0) (by omega), ev_lt_t (a := (m2 : Int)) (by omega), List.head?_cons, List.tail_cons]
                  simp only [Bool.and_self, cond_true, cond_false]
                  by_cases h4 : f' = 125
                  · rw [decide_eq_true h4, if_pos (by rw [h4]), optE_at hC.next]; exact .ret
                  · rw [decide_eq_false h4, if_neg (fun h => h4 (Option.some.inj h))]; exact .ret
        · rw [decide_eq_false h2, if_pos h2]; exact .ret
end Go.Ab
namespace Go.Ab
open Go.Proofs

theorem ratom_holds {n : Nat} (hR : Holds (k_ralt n)) : Holds (k_ratom n) := con_run (xs := [k_ralt n, k_rset, k_Ranges, k_resc, k_inText, k_rbyte]) (hold1 hR (hold1 rset_holds (hold1 rRanges_holds (hold1 resc_holds (hold1 inText_holds (hold1 rbyte_holds hold0)))))) fun aa hp r h => by
  split at h
  case h_2 => cases h
  rename_i s a
  obtain ⟨g, rfl⟩ := xo h
  rw [Bool.and_eq_true] at g
  obtain ⟨g, g2⟩ := g
  obtain ⟨l, rfl⟩ := str_cases s
  obtain ⟨m, c, r, rfl, hA, hl⟩ := inS1_of g
  have hn := hA.len
  rw [List.length_cons] at hn
  rw [size_mk] at g2
  have g2 := leI_t g2
  refine Runs.by (ratom_e · _ _ _) ?_
  rw [hA.rest, hA.rest1, hA.get, wp1 (m := m) (by omega), wp2 (m := m) (by omega), hA.next.rest, inS_at hA.next hl, inS1_at hA hl, size_mk, q40, q91, q46, q94, q36, q92, l32, l126, okB_u8, u8_of, bl_mk, pAtom_cons,
    ev_le_t (a := 0) (b := (m : Int)) (by omega), ev_lt_t (a := (m : Int)) (b := (l.length : Int)) (by omega), ev_le_t (a := (l.length : Int) - ((m + 1 : Nat) : Int) + 1) (b := (n : Int)) (by omega)]
  simp only [Bool.and_self, cond_true]
  by_cases h1 : c = 40
  · rw [decide_eq_true h1, if_pos h1]
    cases hp : pAlt n r with
    | none => rw [optE_none, ev_lt_t (a := -1) (by omega)]; exact .ret
    | some p =>
      obtain ⟨x, t⟩ := p
      have hB := hA.next.suf (suf_alt n _ x t hp)
      have hlB := hB.len
      rw [optE_at hB, optX_some]
      generalize hm1 : l.length - t.length = m1 at *
      rw [ev_lt_f (a := (m1 : Int)) (b := 0) (by omega), wp1 (m := m1) (by omega)]
      simp only [cond_true, cond_false]
      match t, hB, hlB with
      | [], hB, hlB =>
        rw [List.length_nil] at hlB
        rw [ev_le_t (a := (l.length : Int)) (by omega), if_neg (by simp)]; exact .ret
      | d :: u, hB, hlB =>
        rw [List.length_cons] at hlB
        rw [hB.get, n41, ev_le_f (a := (l.length : Int)) (b := (m1 : Int)) (by omega), ev_le_t (a := 0) (b := (m1 : Int)) (by omega), ev_lt_t (a := (m1 : Int)) (by omega), List.head?_cons, List.tail_cons]
        by_cases hd : d = 41
        · rw [decide_eq_true hd, if_pos (by rw [hd]), optE_at hB.next]; exact .ret
        · rw [decide_eq_false hd, if_neg (fun h => hd (Option.some.inj h))]; exact .ret
  · rw [decide_eq_false h1, if_neg h1]
    by_cases h2 : c = 91
    · rw [decide_eq_true h2, if_neg (by rw [h2]; decide), if_neg (by rw [h2]; decide), if_neg (by rw [h2]; decide), if_pos h2]
      cases pSet r with
      | none => exact .ret
      | some p => exact .ret
    · rw [decide_eq_false h2]
      by_cases h3 : c = 46
      · rw [decide_eq_true h3, if_neg (by rw [h3]; decide), if_neg (by rw [h3]; decide), if_pos h3, optE_at hA.next]
        have e : [[L.int IntKind.u8 10, L.int IntKind.u8 10]] = encRs [(10, 10)] := rfl
        have e2 : canR (fun j => !(hasI [(10, 10)] (j : Nat))) 256 = dotR := by unfold dotR; rfl
        rw [e, isRs_enc (by simp), decRs_enc, canR_tt, e2]
        generalize dotR = S
        exact .ret
      · rw [decide_eq_false h3]
        by_cases h4 : c = 94
        · rw [decide_eq_true h4, if_pos h4, optE_at hA.next]; exact .ret
        · rw [decide_eq_false h4, if_neg h4]
          by_cases h5 : c = 36
          · rw [decide_eq_true h5, if_pos h5, optE_at hA.next]; exact .ret
          · rw [decide_eq_false h5, if_neg h5, if_neg h3, if_neg h2]
            by_cases h6 : c = 92
            · rw [decide_eq_true h6, if_pos h6]
              match r, hA, hn with
              | [], hA, hn =>
                rw [List.length_nil] at hn
                rw [ev_lt_f (a := ((m + 1 : Nat) : Int)) (by omega)]; exact .ret
              | d :: u, hA, hn =>
                rw [List.length_cons] at hn
                rw [hA.next.get, q98, okB_u8, u8_of, ev_lt_t (a := ((m + 1 : Nat) : Int)) (by omega), ev_le_t (a := 0) (b := ((m + 1 : Nat) : Int)) (by omega)]
                simp only [Bool.and_self, cond_true]
                by_cases h7 : d = 98
                · rw [decide_eq_true h7, if_pos h7, optE_at hA.next.next]; exact .ret
                · rw [decide_eq_false h7, if_neg h7]
                  cases he : pEsc d with
                  | none => exact .ret
                  | some q => rw [Option.map_some, optE_at hA.next.next]; exact .ret
            · rw [decide_eq_false h6, if_neg h6]
              by_cases h8 : c < 32
              · have hc : classB c = 2 := by unfold classB; rw [if_pos (.inl h8)]
                rw [decide_eq_true h8, hc, if_neg (by decide)]; exact .ret
              · rw [decide_eq_false h8]
                by_cases h9 : 126 < c
                · have hc : classB c = 2 := by unfold classB; rw [if_pos (.inr h9)]
                  rw [decide_eq_true h9, hc, if_neg (by decide)]; exact .ret
                · have hc : classB c = if c ∈ spcs then 1 else 0 := by unfold classB; rw [if_neg (fun h => h.elim h8 h9)]
                  rw [decide_eq_false h9, hc, show ([92, 46, 42, 43, 63, 40, 41, 91, 93, 123, 125, 124, 94, 36] : List UInt8) = spcs from rfl]
                  by_cases h10 : c ∈ spcs
                  · rw [decide_eq_true h10, if_pos h10, if_neg (by decide)]; exact .ret
                  · rw [decide_eq_false h10, if_neg h10, if_pos rfl, optE_at hA.next]; exact .ret
theorem ritem_holds {n : Nat} (hR : Holds (k_ralt n)) : Holds (k_ritem n) := con_run (xs := [k_ratom n, k_rbr]) (hold1 (ratom_holds hR) (hold1 rbr_holds hold0)) fun aa hp r h => by
  split at h
  case h_2 => cases h
  rename_i s a
  obtain ⟨g, rfl⟩ := xo h
  have g' := g
  rw [Bool.and_eq_true] at g
  obtain ⟨g, g2⟩ := g
  obtain ⟨l, rfl⟩ := str_cases s
  obtain ⟨m, c, r, rfl, hA, hl⟩ := inS1_of g
  have hn := hA.len
  refine Runs.by (ritem_e · _ _ _) ?_
  rw [g', hA.rest, size_mk]
  unfold pItem
  cases hp : pAtom (pAlt n) (c :: r) with
  | none => rw [optE_none, ev_lt_t (a := -1) (by omega)]; exact .ret
  | some p =>
    obtain ⟨x, t⟩ := p
    have hB := hA.suf (suf_atom (suf_alt n) _ x t hp)
    have hlB := hB.len
    rw [Option.bind_some, optX_some, optE_at hB]
    generalize hm1 : l.length - t.length = m1 at *
    rw [ev_lt_f (a := (m1 : Int)) (b := 0) (by omega), wp1 (m := m1) (by omega)]
    simp only [cond_true, cond_false]
    match t, hB, hlB with
    | [], hB, hlB =>
      have e := optE_at (x := x) hB
      rw [List.length_nil] at hlB
      rw [ev_le_t (a := (l.length : Int)) (by omega)]
      have e3 : pRep x [] = some (x, []) := rfl
      rw [e3, e]; exact .ret
    | d :: u, hB, hlB =>
      rw [List.length_cons] at hlB
      rw [hB.get, hB.rest1, q42, q43, q63, q123, inS1_at hB hl, ev_le_f (a := (l.length : Int)) (b := (m1 : Int)) (by omega), ev_le_t (a := 0) (b := (m1 : Int)) (by omega), ev_lt_t (a := (m1 : Int)) (b := (l.length : Int)) (by omega),
        ev_eq_f (a := ((m1 + 1 : Nat) : Int)) (b := (m1 : Int)) (by omega), ev_lt_f (a := ((m1 + 1 : Nat) : Int)) (b := 0) (by omega), ev_eq_t (a := (m1 : Int)) (b := (m1 : Int)) rfl, pRep]
      simp only [Bool.and_self, cond_true, cond_false, enc5]
      by_cases h1 : d = 42
      · rw [decide_eq_true h1, if_pos h1, optE_at hB.next]; exact .ret
      · rw [decide_eq_false h1, if_neg h1]
        by_cases h2 : d = 43
        · rw [decide_eq_true h2, if_pos h2, optE_at hB.next]; exact .ret
        · rw [decide_eq_false h2, if_neg h2]
          by_cases h3 : d = 63
          · rw [decide_eq_true h3, if_pos h3, optE_at hB.next]; exact .ret
          · rw [decide_eq_false h3, if_neg h3]
            by_cases h4 : d = 123
            · rw [decide_eq_true h4, if_pos h4, pBr_bn]
              cases hq : pBn u with
              | none => rw [optE_none, ev_eq_f (a := -1) (by omega), ev_lt_t (a := -1) (by omega)]; exact .ret
              | some q =>
                obtain ⟨k, w⟩ := q
                have hs := suf_bn _ k w hq
                have hC := hB.next.suf hs
                have hlC := hC.len
                have hlw := hs.length_le
                rw [Option.map_some, optE_at hC, optE_at hC, optM_some]
                generalize hm2 : l.length - w.length = m2 at *
                rw [ev_eq_f (a := (m2 : Int)) (by omega), ev_lt_f (a := (m2 : Int)) (by omega)]
                exact .ret
            · rw [decide_eq_false h4, if_neg h4, optE_at hB]; exact .ret
/-- What a list of parts with what is left says. -/
def listCells (n : Nat) (k : Int) (o : Option (List Rx × List UInt8)) : List L :=
  cells5 (optX (o.map fun p => (oneX k p.1, p.2))) ++ [.int .i64 (optE n (o.map fun p => (oneX k p.1, p.2)))]
/-- One part alone, or all of them. -/
theorem oneR_end {l : List UInt8} {m : Nat} {cur : List UInt8} (hA : At l m cur) (k : Int) (acc : List Rx) {C : Cfg} :
    RunsF C (fun G => cond (((acc.map encX).length : Int) == 1) (cond (ltI 0 ((acc.map encX).length : Int)) (some [(.int IntKind.i64 (cI 0 (atL (acc.map encX) 0))), (.lst 48 (cX 1 (atL (acc.map encX) 0))), (.int IntKind.i64 (cI 2 (atL (acc.map encX) 0))), (.int IntKind.i64 (cI 3 (atL (acc.map encX) 0))), (.lst 25 (cX 4 (atL (acc.map encX) 0))), (.int IntKind.i64 ((m : Int)))]) none)
      (some [(.int IntKind.i64 k), (.lst 48 []), (.int IntKind.i64 (0)), (.int IntKind.i64 (0)), (.lst 25 (acc.map encX)), (.int IntKind.i64 ((m : Int)))])) (listCells l.length k (some (acc, cur))) := by
  unfold listCells
  rw [Option.map_some, optE_at hA, optX_some, List.length_map]
  unfold oneX
  by_cases h1 : acc.length = 1
  · rw [ev_eq_t (a := (acc.length : Int)) (b := 1) (by omega), ev_lt_t (by omega), if_pos h1]
    have e : atL (acc.map encX) 0 = encX (acc.getD 0 default) := xs_at acc (i := 0) (by omega)
    rw [e, encX_eq]
    exact .ret
  · rw [ev_eq_f (a := (acc.length : Int)) (b := 1) (by omega), if_neg h1]; exact .ret
theorem snocX (acc : List Rx) (x : Rx) : acc.map encX ++ [encX x] = (acc ++ [x]).map encX := by simp
theorem rseq_loop {l : List UInt8} (hl : l.length ≤ 1000) {n : Nat} (h0 h2 h3 : Int) (hh2 hh3 : List (List L)) : ∀ (k m : Nat) (cur : List UInt8) (acc : List Rx), At l m cur → cur.length + 1 ≤ k → cur.length ≤ n → acc.length ≤ m →
    Runs (cfg [k_ritem n]) (rseq_q2 (mk l) (m : Int) h0 h2 h3 (acc.map encX) hh2 hh3) (listCells l.length 2 (pSeqL (pAlt n) k acc cur))
  | 0, m, cur, acc, hA, hk, hn, ha => by omega
  | k + 1, m, [], acc, hA, hk, hn, ha => by
    have hlen := hA.len
    rw [List.length_nil] at hlen
    refine Runs.by (rseq_p2 · _ _ _ _ _ _ _ _ _) ?_
    rw [size_mk, ev_lt_f (a := (m : Int)) (b := (l.length : Int)) (by omega), pSeqL, if_pos (.inl rfl)]
    exact oneR_end hA 2 acc
  | k + 1, m, c :: r, acc, hA, hk, hn, ha => by
    have hlen := hA.len
    rw [List.length_cons] at hlen hk hn
    refine Runs.by (rseq_p2 · _ _ _ _ _ _ _ _ _) ?_
    rw [hA.get, n124, n41, hA.rest, inS1_at hA hl, size_mk, ev_lt_t (a := (m : Int)) (b := (l.length : Int)) (by omega), ev_le_t (a := 0) (b := (m : Int)) (by omega), ev_le_t (a := (l.length : Int) - (m : Int)) (by omega), pSeqL, List.head?_cons]
    simp only [Bool.and_self, cond_true, enc5]
    by_cases h1 : c = 124
    · rw [decide_eq_true h1, if_pos (.inr (.inl (by rw [h1])))]
      exact oneR_end hA 2 acc
    · rw [decide_eq_false h1]
      by_cases h4 : c = 41
      · rw [decide_eq_true h4, if_pos (.inr (.inr (by rw [h4])))]
        exact oneR_end hA 2 acc
      · rw [decide_eq_false h4, if_neg (by simp [h1, h4])]
        simp only [Bool.not_false, cond_true]
        cases hp : pItem (pAlt n) (c :: r) with
        | none => rw [optE_none, ev_lt_t (a := -1) (by omega)]; exact .ret
        | some p =>
          obtain ⟨x, t⟩ := p
          have hs := suf_item (suf_alt n) _ x t hp
          have hB := hA.suf hs
          have hlB := hB.len
          have ht : t.length + 1 ≤ (c :: r).length := pItem_len (altS_len n) (alt_rel n) (by rw [List.length_cons]; omega) hp
          rw [List.length_cons] at ht
          rw [optE_at hB, optX_some, List.length_map]
          generalize hm1 : l.length - t.length = m1 at *
          rw [ev_lt_f (a := (m1 : Int)) (b := 0) (by omega), roomN_t (n := acc.length + 1) (by omega) (by omega), snocX]
          exact .go (rseq_loop hl h0 h2 h3 hh2 hh3 k m1 t (acc ++ [x]) hB (by omega) (by omega) (by rw [List.length_append, List.length_singleton]; omega))
theorem rseq_holds {n : Nat} (hR : Holds (k_ralt n)) : Holds (k_rseq n) := con_run (xs := [k_ritem n]) (hold1 (ritem_holds hR) hold0) fun aa hp r h => by
  split at h
  case h_2 => cases h
  rename_i s a
  obtain ⟨g, rfl⟩ := xo h
  rw [Bool.and_eq_true] at g
  obtain ⟨g, g2⟩ := g
  obtain ⟨l, rfl⟩ := str_cases s
  obtain ⟨m, cur, rfl, hA, hl⟩ := inS_of g
  have hn := hA.len
  rw [size_mk] at g2
  have g2 := leI_t g2
  refine Runs.by (rseq_e · _ _ _) ?_
  rw [hA.rest, size_mk]
  exact .go (rseq_loop hl 0 0 0 [] [] (cur.length + 1) m cur [] hA (by omega) (by omega) (by simp))
theorem ralt_loop {l : List UInt8} (hl : l.length ≤ 1000) {n : Nat} (h0 h2 h3 : Int) (hh2 hh3 : List (List L)) : ∀ (k m : Nat) (cur : List UInt8) (acc : List Rx), At l m cur → cur.length ≤ k → cur.length ≤ n → acc.length ≤ m →
    Runs (cfg [k_rseq n]) (ralt_q2 (mk l) (m : Int) h0 h2 h3 (acc.map encX) hh2 hh3) (listCells l.length 3 ((pSeq (pAlt n) cur).bind fun p => pAltL (pAlt n) (k + 1) (acc ++ [p.1]) p.2)) := by
  intro k
  induction k with
  | zero =>
    intro m cur acc hA hk hn ha
    have hc : cur = [] := List.length_eq_zero_iff.1 (by omega)
    subst hc
    have hlen := hA.len
    rw [List.length_nil] at hlen
    refine Runs.by (ralt_p2 · _ _ _ _ _ _ _ _ _) ?_
    have hp : pSeq (pAlt n) [] = some (oneX 2 [], []) := rfl
    rw [hA.rest, inS_at hA hl, size_mk, hp, optE_at hA, optX_some, ev_le_t (a := (l.length : Int) - (m : Int)) (by omega), ev_lt_f (a := (m : Int)) (b := 0) (by omega), List.length_map, roomN_t (n := acc.length + 1) (by omega) (by omega), ev_le_t (a := (l.length : Int)) (b := (m : Int)) (by omega), Option.bind_some, pAltL, if_neg (by simp)]
    simp only [enc5, snocX]
    exact oneR_end hA 3 (acc ++ [oneX 2 []])
  | succ k ih =>
    intro m cur acc hA hk hn ha
    have hlen := hA.len
    refine Runs.by (ralt_p2 · _ _ _ _ _ _ _ _ _) ?_
    rw [hA.rest, inS_at hA hl, size_mk, ev_le_t (a := (l.length : Int) - (m : Int)) (by omega)]
    cases hp : pSeq (pAlt n) cur with
    | none => rw [optE_none, ev_lt_t (a := -1) (by omega)]; exact .ret
    | some p =>
      obtain ⟨x, t⟩ := p
      have hs := suf_seq (suf_alt n) _ x t hp
      have hB := hA.suf hs
      have hlB := hB.len
      have hlt := hs.length_le
      rw [optE_at hB, optX_some, Option.bind_some]
      generalize hm1 : l.length - t.length = m1 at *
      rw [ev_lt_f (a := (m1 : Int)) (b := 0) (by omega), List.length_map, roomN_t (n := acc.length + 1) (by omega) (by omega), wp1 (m := m1) (by omega), pAltL]
      simp only [enc5, snocX, Bool.and_self, cond_true, cond_false]
      match t, hB, hlB, hlt with
      | [], hB, hlB, hlt =>
        rw [List.length_nil] at hlB
        rw [ev_le_t (a := (l.length : Int)) (b := (m1 : Int)) (by omega), if_neg (by simp)]
        exact oneR_end hB 3 (acc ++ [x])
      | d :: u, hB, hlB, hlt =>
        rw [List.length_cons] at hlB hlt
        rw [hB.get, n124, ev_le_f (a := (l.length : Int)) (b := (m1 : Int)) (by omega), ev_le_t (a := 0) (b := (m1 : Int)) (by omega), ev_lt_t (a := (m1 : Int)) (b := (l.length : Int)) (by omega), List.head?_cons, List.tail_cons]
        simp only [Bool.and_self, cond_true, cond_false]
        by_cases hd : d = 124
        · rw [decide_eq_true hd, if_pos (by rw [hd])]
          simp only [Bool.not_true, cond_false]
          have ih := ih (m1 + 1) u (acc ++ [x]) hB.next (by omega) (by omega) (by rw [List.length_append, List.length_singleton]; omega)
          have e : ((pSeq (pAlt n) u).bind fun p => pAltL (pAlt n) (k + 1) (acc ++ [x] ++ [p.1]) p.2) = (match pSeq (pAlt n) u with
            | none => none
            | some (y, v) => pAltL (pAlt n) (k + 1) (acc ++ [x] ++ [y]) v) := by cases pSeq (pAlt n) u <;> rfl
          rw [e] at ih
          exact .go ih
        · rw [decide_eq_false hd, if_neg (fun h => hd (Option.some.inj h))]
          exact oneR_end hB 3 (acc ++ [x])
theorem ralt_holds : ∀ n, Holds (k_ralt n)
  | 0 => con_run (xs := []) hold0 fun aa hp r h => by
    split at h
    case h_2 => cases h
    rename_i s a
    obtain ⟨g, rfl⟩ := xo h
    rw [Bool.and_eq_true] at g
    obtain ⟨g, g2⟩ := g
    obtain ⟨l, rfl⟩ := str_cases s
    obtain ⟨m, cur, rfl, hA, hl⟩ := inS_of g
    have hn := hA.len
    rw [size_mk] at g2
    have g2 := leI_t g2
    omega
  | n + 1 => con_run (xs := [k_rseq n]) (hold1 (rseq_holds (ralt_holds n)) hold0) fun aa hp r h => by
    split at h
    case h_2 => cases h
    rename_i s a
    obtain ⟨g, rfl⟩ := xo h
    rw [Bool.and_eq_true] at g
    obtain ⟨g, g2⟩ := g
    obtain ⟨l, rfl⟩ := str_cases s
    obtain ⟨m, cur, rfl, hA, hl⟩ := inS_of g
    have hn := hA.len
    rw [size_mk] at g2
    have g2 := leI_t g2
    refine Runs.by (ralt_e · _ _ _) ?_
    rw [hA.rest, size_mk]
    have e : cells5 (optX (pAlt (n + 1) cur)) ++ [L.int .i64 (optE l.length (pAlt (n + 1) cur))] = listCells l.length 3 ((pSeq (pAlt n) cur).bind fun p => pAltL (pAlt n) (cur.length + 1) ([] ++ [p.1]) p.2) := by
      unfold listCells
      rw [pAlt]
      cases pSeq (pAlt n) cur <;> rfl
    rw [e]
    exact .go (ralt_loop hl 0 0 0 [] [] cur.length m cur [] hA (by omega) (by omega) (by simp))
theorem rParse_holds : Holds k_rParse := con_run (xs := [k_ralt 301, k_rRight]) (hold1 (ralt_holds 301) (hold1 rRight_holds hold0)) fun aa hp r h => by
  split at h
  case h_2 => cases h
  rename_i s
  obtain ⟨g, rfl⟩ := xo h
  obtain ⟨l, rfl⟩ := str_cases s
  refine Runs.by (rParse_e · _) ?_
  rw [size_mk, bl_mk]
  unfold parseP
  by_cases hl : 300 < l.length
  · rw [ev_lt_t (by omega), if_pos hl]; exact .ret
  · have hA := At.zero l
    have hr : atS (mk l) 0 = l := hA.rest
    have hi : inS (mk l) 0 = true := inS_at hA (by omega)
    obtain ⟨a1, a2⟩ := alt_rel 301 l (by omega)
    rw [ev_lt_f (by omega), if_neg hl, hr, hi, ev_le_t (a := (l.length : Int) - 0 + 1) (by omega)]
    simp only [Bool.and_self, cond_true, cond_false]
    cases hp : pAlt 301 l with
    | none =>
      rw [if_pos (.inl (a1 hp)), optE_none, ev_ne_t (a := -1) (by omega)]; exact .ret
    | some p =>
      obtain ⟨x, t⟩ := p
      have e := a2 x t hp
      have hs := suf_alt 301 _ x t hp
      have hB := hA.suf hs
      have hlB := hB.len
      have hlt := hs.length_le
      rw [e, optE_at hB, optX_some]
      simp only []
      cases t with
      | nil =>
        rw [List.length_nil] at hlB hlt
        have hok : x.ok := by
          have := (altS_ok (n := 300) (l := l) (by rw [e]) (by omega)).1
          rw [e] at this; exact this
        rw [if_neg (by simp), ev_ne_f (by rw [List.length_nil]; omega), dec5, is5 hok (ok_lev hok)]
        simp only [cond_true, cond_false]
        by_cases h0 : rightS x = 0
        · rw [ev_ne_f h0, if_neg (fun h => h h0)]; exact .ret
        · rw [ev_ne_t h0, if_pos h0]; exact .ret
      | cons d u =>
        rw [List.length_cons] at hlB hlt
        rw [if_pos (.inr (by simp)), ev_ne_t (by rw [List.length_cons]; omega)]; exact .ret
theorem run_RegexParses (s : ByteArray) : Runs (cfg [k_alive, k_Parse, k_rParse, k_rSame 1000000000000]) (.enter 4 [.lf (.str s)] []) [.bool true] := by
  obtain ⟨l, rfl⟩ := str_cases s
  refine Runs.by (LParses_e · _) ?_
  simp only [bl_mk, size_mk]
  by_cases hl : 600 < l.length
  · rw [ev_lt_t (by omega)]; exact .ret
  · obtain ⟨a1, a2⟩ := parseP_ok l
    rw [ev_lt_f (by omega), ev_blt (show l.length ≤ 9223372036854775807 by omega), is5 a1 (ok_lev a1), dec5]
    simp only [cond_false, cond_true, beq_self_eq_true, Bool.and_self, sameX_refl]
    exact .ret
end Go.Ab
