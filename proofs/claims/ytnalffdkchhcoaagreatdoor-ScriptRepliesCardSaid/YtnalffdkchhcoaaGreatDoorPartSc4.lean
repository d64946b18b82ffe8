/- The two readers of a line answer the same: lists, events, lines. -/
import Derived.Test.YtnalffdkchhcoaaGreatDoorPartSc3
namespace Go.Ab
open Go.Proofs

theorem bad_sW {x : Rs} (h : x.2 = true) : (sW x).2 = true := dm_sW (.inl h)
theorem bad_sN {x : Rs} (h : x.2 = true) : (sN x).2 = true := dm_sN (.inl h)
theorem bad_sT {x : Rs} (h : x.2 = true) : (sT x).2 = true := dm_sT (.inl h)
theorem bad_mo {x : Rs} (h : x.2 = true) : mo x = false := by unfold mo; rw [h]; rfl
theorem lpW_bad : ∀ (f : Nat) (x : Rs) (a : List Wr), x.2 = true → (lpW f x a).2 = x
  | 0, _, _, _ => rfl
  | f + 1, x, a, h => by rw [lpW, bad_mo h]; rfl
theorem lpG_bad : ∀ (f : Nat) (x : Rs) (u : List Int) (g : List W), x.2 = true → (lpG f x u g).2 = x
  | 0, _, _, _, _ => rfl
  | f + 1, x, u, g, h => by rw [lpG, bad_mo h]; rfl
theorem lpR_bad : ∀ (f : Nat) (x : Rs) (a : List Ru), x.2 = true → (lpR f x a).2 = x
  | 0, _, _, _ => rfl
  | f + 1, x, a, h => by rw [lpR, bad_mo h]; rfl
theorem lqW_bad : ∀ (f : Nat) (x : Rs) (a : List Wr), x.2 = true → (lqW f x a).2 = x
  | 0, _, _, _ => rfl
  | f + 1, x, a, h => by rw [lqW, bad_mo h]; rfl
theorem lqG_bad : ∀ (f : Nat) (x : Rs) (u : List Int) (g : List W), x.2 = true → (lqG f x u g).2 = x
  | 0, _, _, _, _ => rfl
  | f + 1, x, u, g, h => by rw [lqG, bad_mo h]; rfl
theorem lqR_bad : ∀ (f : Nat) (x : Rs) (a : List Ru), x.2 = true → (lqR f x a).2 = x
  | 0, _, _, _ => rfl
  | f + 1, x, a, h => by rw [lqR, bad_mo h]; rfl
theorem lpW_dm (f : Nat) (x : Rs) (a : List Wr) (h : Dm x) : Dm (lpW f x a).2 := by
  cases f with
  | zero => exact h
  | succ f =>
    rw [lpW]
    cases mo x
    · exact h
    · have hb := dm_sW h
      cases vW x == wPut
      · cases vW x == wDel
        · exact .inl (by show (lpW f ((sW x).1, true) a).2.2 = true; rw [lpW_bad f _ a rfl])
        · show Dm (lpW f (sW (sW x)) _).2
          rw [lpW_bad _ _ _ (bad_sW hb)]
          exact .inl (bad_sW hb)
      · show Dm (lpW f (sT (sW (sW x))) _).2
        rw [lpW_bad _ _ _ (bad_sT (bad_sW hb))]
        exact .inl (bad_sT (bad_sW hb))
theorem abad_sW {x : Rs} (h : x.2 = true) : (sAW x).2 = true := dm_sAW (.inl h)
theorem abad_sN {x : Rs} (h : x.2 = true) : (sAN x).2 = true := dm_sAN (.inl h)
theorem abad_sT {x : Rs} (h : x.2 = true) : (sAT x).2 = true := dm_sAT (.inl h)
theorem lqW_dm (f : Nat) (x : Rs) (a : List Wr) (h : Dm x) : Dm (lqW f x a).2 := by
  cases f with
  | zero => exact h
  | succ f =>
    rw [lqW]
    cases mo x
    · exact h
    · have hb := dm_sAW h
      cases vAW x == wPut
      · cases vAW x == wDel
        · exact .inl (by show (lqW f ((sAW x).1, true) a).2.2 = true; rw [lqW_bad f _ a rfl])
        · show Dm (lqW f (sAW (sAW x)) _).2
          rw [lqW_bad _ _ _ (abad_sW hb)]
          exact .inl (abad_sW hb)
      · show Dm (lqW f (sAT (sAW (sAW x))) _).2
        rw [lqW_bad _ _ _ (abad_sT (abad_sW hb))]
        exact .inl (abad_sT (abad_sW hb))
theorem lpG_dm (f : Nat) (x : Rs) (u : List Int) (g : List W) (h : Dm x) : Dm (lpG f x u g).2 := by
  cases f with
  | zero => exact h
  | succ f =>
    rw [lpG]
    cases mo x
    · exact h
    · have hb := dm_sW h
      cases vW x == wUser && g.isEmpty
      · cases vW x == wGroup
        · exact .inl (by show (lpG f ((sW x).1, true) u g).2.2 = true; rw [lpG_bad f _ u g rfl])
        · show Dm (lpG f (sW (sW x)) _ _).2
          rw [lpG_bad _ _ _ _ (bad_sW hb)]
          exact .inl (bad_sW hb)
      · show Dm (lpG f (sN (sW x)) _ _).2
        rw [lpG_bad _ _ _ _ (bad_sN hb)]
        exact .inl (bad_sN hb)
theorem lqG_dm (f : Nat) (x : Rs) (u : List Int) (g : List W) (h : Dm x) : Dm (lqG f x u g).2 := by
  cases f with
  | zero => exact h
  | succ f =>
    rw [lqG]
    cases mo x
    · exact h
    · have hb := dm_sAW h
      cases vAW x == wUser
      · cases vAW x == wGroup
        · exact .inl (by show (lqG f ((sAW x).1, true) u g).2.2 = true; rw [lqG_bad f _ u g rfl])
        · show Dm (lqG f (sAW (sAW x)) _ _).2
          rw [lqG_bad _ _ _ _ (abad_sW hb)]
          exact .inl (abad_sW hb)
      · cases g.isEmpty
        · show Dm (lqG f (sAN ((sAW x).1, true)) _ _).2
          rw [lqG_bad _ _ _ _ (abad_sN rfl)]
          exact .inl (abad_sN rfl)
        · show Dm (lqG f (sAN (sAW x)) _ _).2
          rw [lqG_bad _ _ _ _ (abad_sN hb)]
          exact .inl (abad_sN hb)
theorem lpR_dm (f : Nat) (x : Rs) (a : List Ru) (h : Dm x) : Dm (lpR f x a).2 := by
  cases f with
  | zero => exact h
  | succ f =>
    rw [lpR]
    cases mo x
    · exact h
    · have hb := bad_sW (bad_sW (bad_sW (dm_sW h)))
      have hb2 : (((sW (sW (sW (sW x)))).1, (sW (sW (sW (sW x)))).2 || (!(vW x == wAllow) && !(vW x == wDeny))) : Rs).2 = true := by
        show ((sW (sW (sW (sW x)))).2 || _) = true
        rw [hb]; rfl
      show Dm (lpR f ((sW (sW (sW (sW x)))).1, (sW (sW (sW (sW x)))).2 || (!(vW x == wAllow) && !(vW x == wDeny))) _).2
      rw [lpR_bad _ _ _ hb2]
      exact .inl hb2
theorem lqR_dm (f : Nat) (x : Rs) (a : List Ru) (h : Dm x) : Dm (lqR f x a).2 := by
  cases f with
  | zero => exact h
  | succ f =>
    rw [lqR]
    cases mo x
    · exact h
    · have hb0 : (((sAW x).1, (sAW x).2 || !okR (vAW x)) : Rs).2 = true := by
        show ((sAW x).2 || _) = true
        rw [dm_sAW h]; rfl
      have hb := abad_sW (abad_sW (abad_sW hb0))
      show Dm (lqR f (sAW (sAW (sAW ((sAW x).1, (sAW x).2 || !okR (vAW x))))) _).2
      rw [lqR_bad _ _ _ hb]
      exact .inl hb
theorem sW_len (x : Rs) : (sW x).1.length ≤ x.1.length := rwS_le _ _
theorem sN_len (x : Rs) : (sN x).1.length ≤ x.1.length := rwS_le _ _
theorem sT_len (x : Rs) : (sT x).1.length ≤ x.1.length := ptS_le _ _
theorem nd_len {x : Rs} (hm : mo x = true) (hd : ¬ Dm (sW x)) : (sW x).1.length < x.1.length := by
  have := fl_mo (f := x.1.length) (x := x) (.inl (Nat.lt_succ_self _)) hm
  rcases this with h | h
  · exact h
  · exact absurd (.inl h) hd
/-- Lists of writes. -/
theorem lW_sm : ∀ (f g : Nat) (x : Rs) (a : List Wr), x.1.length < f → x.1.length < g → Sm x x → Sm (lpW f x a).2 (lqW g x a).2 ∧ (¬ Dm (lpW f x a).2 → (lpW f x a).1 = (lqW g x a).1)
  | 0, _, _, _, h, _, _ => absurd h (Nat.not_lt_zero _)
  | _, 0, _, _, _, h, _ => absurd h (Nat.not_lt_zero _)
  | f + 1, g + 1, x, a, hf, hg, hs => by
    by_cases hdx : Dm x
    · exact ⟨.inr ⟨lpW_dm _ _ _ hdx, lqW_dm _ _ _ hdx⟩, fun h => absurd (lpW_dm _ _ _ hdx) h⟩
    · obtain ⟨s1, v1⟩ := stepW hs
      have both : Dm (lpW (f + 1) x a).2 → Dm (lqW (g + 1) x a).2 → Sm (lpW (f + 1) x a).2 (lqW (g + 1) x a).2 ∧ (¬ Dm (lpW (f + 1) x a).2 → (lpW (f + 1) x a).1 = (lqW (g + 1) x a).1) := fun h1 h2 => ⟨.inr ⟨h1, h2⟩, fun h => absurd h1 h⟩
      cases hm : mo x with
      | false =>
        have e1 : lpW (f + 1) x a = (a, x) := by rw [lpW, hm]; rfl
        have e2 : lqW (g + 1) x a = (a, x) := by rw [lqW, hm]; rfl
        rw [e1, e2]
        exact ⟨hs, fun _ => rfl⟩
      | true =>
        by_cases hd1 : Dm (sW x)
        · have hd1' : Dm (sAW x) := s1.elim (fun h => by rw [← h.1]; exact hd1) fun h => h.2
          refine both ?_ ?_
          · rw [lpW, hm]
            cases vW x == wPut
            · cases vW x == wDel
              · exact .inl (by show (lpW f ((sW x).1, true) a).2.2 = true; rw [lpW_bad f _ a rfl])
              · exact lpW_dm _ _ _ (dW hd1)
            · exact lpW_dm _ _ _ (dT (dW hd1))
          · rw [lqW, hm]
            cases vAW x == wPut
            · cases vAW x == wDel
              · exact .inl (by show (lqW g ((sAW x).1, true) a).2.2 = true; rw [lqW_bad g _ a rfl])
              · exact lqW_dm _ _ _ (dAW hd1')
            · exact lqW_dm _ _ _ (dAT (dAW hd1'))
        · have ev := v1 hd1
          have e1 := s1.good hd1
          have hl := nd_len hm hd1
          obtain ⟨s2, v2⟩ := stepW s1
          obtain ⟨s3, v3⟩ := stepT s2
          clear both
          rw [lpW, lqW, hm, ← ev]
          simp only [cond_true]
          cases hp : vW x == wPut
          · simp only [cond_false]
            cases hq : vW x == wDel
            · simp only [cond_false]
              rw [lpW_bad f _ a rfl, lqW_bad g _ a rfl]
              exact ⟨.inr ⟨.inl rfl, .inl rfl⟩, fun h => absurd (.inl rfl) h⟩
            · simp only [cond_true]
              by_cases hd2 : Dm (sW (sW x))
              · exact ⟨.inr ⟨lpW_dm _ _ _ hd2, lqW_dm _ _ _ (s2.elim (fun h => by rw [← h.1]; exact hd2) fun h => h.2)⟩, fun h => absurd (lpW_dm _ _ _ hd2) h⟩
              · have e2 := s2.good hd2
                rw [← v2 hd2, ← e2]
                have := sW_len (sW x)
                exact lW_sm f g (sW (sW x)) _ (by omega) (by omega) good_sm
          · simp only [cond_true]
            by_cases hd3 : Dm (sT (sW (sW x)))
            · exact ⟨.inr ⟨lpW_dm _ _ _ hd3, lqW_dm _ _ _ (s3.elim (fun h => by rw [← h.1]; exact hd3) fun h => h.2)⟩, fun h => absurd (lpW_dm _ _ _ hd3) h⟩
            · have e3 := s3.good hd3
              have hd2 : ¬ Dm (sW (sW x)) := fun h => hd3 (dT h)
              rw [← v3 hd3, ← v2 hd2, ← e3]
              have := sW_len (sW x)
              have := sT_len (sW (sW x))
              exact lW_sm f g (sT (sW (sW x))) _ (by omega) (by omega) good_sm
end Go.Ab
namespace Go.Ab
open Go.Proofs

theorem no10_le (t : W) : (no10 t).length ≤ t.length := (List.takeWhile_sublist _).length_le
theorem stF_lt : ∀ (s : W) (i : Nat) (b : Bool) (p : Nat), p ∈ stF i s b → i ≤ p ∧ p < i + s.length
  | [], _, _, _, h => by cases h
  | c :: s, i, b, p, h => by
    rw [stF] at h
    have ih := stF_lt s (i + 1) (c.toNat == 10) p
    simp only [List.length_cons]
    cases b
    · have := ih h; omega
    · rcases List.mem_cons.1 h with rfl | h
      · omega
      · have := ih h; omega
theorem stF_len : ∀ (s : W) (i : Nat) (b : Bool), (stF i s b).length ≤ s.length
  | [], _, _ => Nat.le_refl _
  | c :: s, i, b => by
    have ih := stF_len s (i + 1) (c.toNat == 10)
    rw [stF]
    simp only [List.length_cons]
    cases b
    · exact Nat.le_succ_of_le ih
    · exact Nat.succ_le_succ ih
theorem eNs_snoc (l : List Nat) (n : Nat) : eNs l ++ [[L.int IntKind.i64 (n : Int)]] = eNs (l ++ [n]) := by simp [eNs, eIs, eI1]
theorem eNs_len (l : List Nat) : (eNs l).length = l.length := by simp [eNs, eIs]
theorem starts_loop (s : W) (hs : s.length ≤ 1000000) : ∀ (m i : Nat) (acc : List Nat), i + m = s.length → acc.length ≤ i → Runs (cfg []) (starts_q3 (mk s) (i : Nat) (eNs acc)) [.lst 3 (eNs (acc ++ stF i (s.drop i) (i == 0 || (s.getD (i - 1) 0).toNat == 10)))]
  | 0, i, acc, h, ha => by
    refine Runs.by (starts_p3 · _ _ _) ?_
    rw [drop_end (l := s) (by omega)]
    simp (disch := omega) only [size_mk, ev_lt_f, cond_false]
    exact .ret' (by simp [stF])
  | m + 1, i, acc, h, ha => by
    have hi : i < s.length := by omega
    have ih := fun a ha' => starts_loop s hs m (i + 1) a (by omega) ha'
    have e1 : ((i + 1 == 0) || (s.getD (i + 1 - 1) 0).toNat == 10) = ((s.getD i 0).toNat == 10) := by
      rw [show i + 1 - 1 = i by omega]
      simp
    rw [e1] at ih
    refine Runs.by (starts_p3 · _ _ _) ?_
    rw [drop_at 0 hi, stF]
    simp (disch := omega) only [size_mk, ev_lt_t, eNs_len, roomN_t, w64, cond_true]
    by_cases h0 : i = 0
    · subst h0
      have := ih (acc ++ [0]) (by rw [List.length_append, List.length_singleton]; omega)
      rw [← eNs_snoc] at this
      rw [show (((0 : Nat) : Int) == 0) = true from rfl]
      simp only [cond_true, beq_self_eq_true, Bool.true_or]
      rw [List.append_assoc] at this
      exact .go this
    · have hb0 : (i == 0) = false := by simpa using h0
      obtain ⟨j, rfl⟩ : ∃ j, i = j + 1 := ⟨i - 1, by omega⟩
      have ei : ((j + 1 : Nat) : Int) - 1 = (j : Int) := by omega
      rw [ev_eq_f (by omega), hb0, Bool.false_or, show j + 1 - 1 = j by omega]
      simp (disch := omega) only [ei, ev_le_t, Bool.and_self, cond_true, cond_false, byI_mk]
      rw [show ((((s.getD j 0).toNat : Nat) : Int) == 10) = ((s.getD j 0).toNat == 10) from by rw [Bool.eq_iff_iff, beq_iff_eq, beq_iff_eq]; omega]
      cases hc : (s.getD j 0).toNat == 10
      · exact .go (ih acc (by omega))
      · have := ih (acc ++ [j + 1]) (by simp; omega)
        rw [← eNs_snoc, List.append_assoc] at this
        exact .go this
theorem starts_holds : Holds k_starts := conT_of (ks := []) hold0 fun s g => by
  refine Runs.by (starts_e · _) ?_
  have := starts_loop s (sm_of g) s.length 0 [] (Nat.zero_add _) (Nat.le_refl _)
  rw [List.drop_zero, List.nil_append] at this
  exact .go this
theorem stop_loop (s : W) (hs : s.length ≤ 1000000) : ∀ (m i : Nat), i + m = s.length → Runs (cfg []) (stop_q2 (mk s) (i : Nat)) [.int .i64 (stopF s i : Nat)]
  | 0, i, h => by
    refine Runs.by (stop_p2 · _ _) ?_
    simp (disch := omega) only [size_mk, ev_lt_f, cond_false]
    unfold stopF
    rw [drop_end (l := s) (by omega), show Nat.blt (i + (no10 []).length) s.length = false from by rw [← Bool.not_eq_true, Nat.blt_eq]; simp [no10]; omega]
    exact .ret
  | m + 1, i, h => by
    have hi : i < s.length := by omega
    have ih := stop_loop s hs m (i + 1) (by omega)
    refine Runs.by (stop_p2 · _ _) ?_
    simp (disch := omega) only [size_mk, ev_lt_t, ev_le_t, Bool.and_self, cond_true, byI_mk, w64]
    unfold stopF at ih ⊢
    rw [drop_at 0 hi]
    by_cases hc : (s.getD i 0).toNat = 10
    · rw [ev_eq_t (by omega)]
      have e : no10 (s.getD i 0 :: s.drop (i + 1)) = [] := by unfold no10; rw [List.takeWhile_cons, hc]; rfl
      rw [e, show Nat.blt (i + ([] : W).length) s.length = true from by rw [Nat.blt_eq]; simpa using hi]
      exact .ret' (by simp)
    · rw [ev_eq_f (by omega)]
      have hc' : ((s.getD i 0).toNat == 10) = false := by simpa using hc
      have e : no10 (s.getD i 0 :: s.drop (i + 1)) = s.getD i 0 :: no10 (s.drop (i + 1)) := by unfold no10; rw [List.takeWhile_cons, hc']; rfl
      rw [e, List.length_cons, show i + ((no10 (s.drop (i + 1))).length + 1) = i + 1 + (no10 (s.drop (i + 1))).length by omega]
      exact .go ih
theorem stop_holds : Holds k_stop := con_run (xs := []) hold0 fun aa hp r h => by
  split at h
  case h_2 => cases h
  rename_i s i
  obtain ⟨g, rfl⟩ := xo h
  simp only [Bool.and_eq_true] at g
  obtain ⟨s, rfl⟩ := str_cases s
  have g0 := sm_of g.1
  have g1 := leI_t g.2.1
  have g2 := leI_t g.2.2
  rw [size_mk] at g0 g2
  obtain ⟨i, rfl⟩ := Int.eq_ofNat_of_zero_le g1
  refine Runs.by (stop_e · _ _) ?_
  exact .go (stop_loop s g0 (s.length - i) i (by omega))
theorem stopF_spec (s : W) (i : Nat) (hi : i < s.length) : (stopF s i = i + (no10 (s.drop i)).length + 1 ∧ i + (no10 (s.drop i)).length < s.length ∧ (s.getD (i + (no10 (s.drop i)).length) 0).toNat = 10) ∨
    (stopF s i = s.length ∧ i + (no10 (s.drop i)).length = s.length ∧ (s.getD (s.length - 1) 0).toNat ≠ 10) := by
  have hle := no10_le (s.drop i)
  rw [List.length_drop] at hle
  have hat : ∀ (t : W), (no10 t).length < t.length → (t.getD (no10 t).length 0).toNat = 10 := by
    intro t
    induction t with
    | nil => intro h; cases h
    | cons c t ih =>
      intro h
      unfold no10 at h ih ⊢
      rw [List.takeWhile_cons] at h ⊢
      split at h
      · rename_i hc
        rw [if_pos hc]
        exact ih (Nat.lt_of_succ_lt_succ h)
      · rename_i hc
        rw [if_neg hc]
        simpa using hc
  have hall : ∀ (t : W) (j : Nat), j < (no10 t).length → (t.getD j 0).toNat ≠ 10 := by
    intro t
    induction t with
    | nil => intro j h; cases h
    | cons c t ih =>
      intro j h
      unfold no10 at h ih
      rw [List.takeWhile_cons] at h
      split at h
      · rename_i hc
        cases j with
        | zero => simpa using hc
        | succ j => exact ih j (Nat.lt_of_succ_lt_succ h)
      · cases h
  have gd : ∀ j, (s.drop i).getD j 0 = s.getD (i + j) 0 := fun j => by simp [List.getD]
  unfold stopF
  by_cases h : i + (no10 (s.drop i)).length < s.length
  · left
    rw [show Nat.blt (i + (no10 (s.drop i)).length) s.length = true from by rw [Nat.blt_eq]; exact h]
    have := hat (s.drop i) (by rw [List.length_drop]; omega)
    rw [gd] at this
    exact ⟨rfl, h, this⟩
  · right
    rw [show Nat.blt (i + (no10 (s.drop i)).length) s.length = false from by rw [← Bool.not_eq_true, Nat.blt_eq]; exact h]
    have := hall (s.drop i) (s.length - 1 - i) (by omega)
    rw [gd, show i + (s.length - 1 - i) = s.length - 1 by omega] at this
    exact ⟨rfl, by omega, this⟩
theorem no10_take (s : W) (i : Nat) : (s.drop i).take (no10 (s.drop i)).length = no10 (s.drop i) := by
  generalize s.drop i = t
  induction t with
  | nil => rfl
  | cons c t ih =>
    unfold no10 at ih ⊢
    rw [List.takeWhile_cons]
    split
    · rw [List.length_cons, List.take_succ_cons, ih]
    · rfl
theorem rlines_loop (s : W) (hs : s.length ≤ 1000000) (ps : List Nat) (hp : ∀ p ∈ ps, p < s.length) (hl : ps.length ≤ 1000000) : ∀ (m i : Nat) (acc : List W), i + m = ps.length → acc.length ≤ i →
    Runs (cfg [k_starts, k_stop]) (rlines_q4 (mk s) (eNs ps) (i : Nat) (eSs acc)) [.lst 9 (eSs (acc ++ (ps.drop i).map fun p => no10 (s.drop p)))]
  | 0, i, acc, h, ha => by
    refine Runs.by (rlines_p4 · _ _ _ _) ?_
    rw [drop_end (l := ps) (by omega)]
    simp (disch := omega) only [eNs_len, ev_lt_f, cond_false]
    exact .ret' (by simp)
  | m + 1, i, acc, h, ha => by
    have hi : i < ps.length := by omega
    have ih := rlines_loop s hs ps hp hl m (i + 1) (acc ++ [no10 (s.drop (ps.getD i 0))]) (by omega) (by simp; omega)
    rw [List.append_assoc] at ih
    have hx : atL (eNs ps) (i : Int) = eI1 ((ps.getD i 0 : Nat) : Int) := by
      have := atL_map eI1 (ps.map fun n : Nat => (n : Int)) i 0 (by rw [List.length_map]; exact hi)
      rw [show (ps.map fun n : Nat => (n : Int)).getD i 0 = ((ps.getD i 0 : Nat) : Int) from by simp [List.getD, List.getElem?_eq_getElem hi]] at this
      exact this
    have hpm : ps.getD i 0 < s.length := hp _ (by simp [List.getD, List.getElem?_eq_getElem hi])
    refine Runs.by (rlines_p4 · _ _ _ _) ?_
    rw [drop_at 0 hi, List.map_cons]
    have e0 : cI 0 (eI1 ((ps.getD i 0 : Nat) : Int)) = ((ps.getD i 0 : Nat) : Int) := rfl
    have hst := stopF_spec s (ps.getD i 0) hpm
    have htk := no10_take s (ps.getD i 0)
    simp only [hx, e0, bl_mk, Int.toNat_natCast, eNs_len, size_mk]
    generalize ps.getD i 0 = p at *
    rcases hst with ⟨q1, q2, q3⟩ | ⟨q1, q2, q3⟩
    · rw [q1]
      have e1 : wrapI IntKind.i64 (((p + (no10 (s.drop p)).length + 1 : Nat) : Int) - 1) = ((p + (no10 (s.drop p)).length : Nat) : Int) := by rw [w64 (by omega) (by omega)]; omega
      rw [e1, sm_t hs]
      simp (disch := omega) only [ev_lt_t, ev_le_t, Bool.and_self, cond_true, byI_mk, Int.toNat_natCast, ev_eq_t, eSs_len, roomN_t, w64]
      have e2 : (mk s).extract p (p + (no10 (s.drop p)).length) = mk (no10 (s.drop p)) := by
        rw [ext_mk, List.drop_take, show p + (no10 (s.drop p)).length - p = (no10 (s.drop p)).length by omega, htk]
      rw [e2]
      rw [← eSs_snoc'] at ih
      exact .go (by simpa [eSs, eS1] using ih)
    · rw [q1]
      obtain ⟨n, hn⟩ : ∃ n, s.length = n + 1 := ⟨s.length - 1, by omega⟩
      have e1 : wrapI IntKind.i64 (((s.length : Nat) : Int) - 1) = ((s.length - 1 : Nat) : Int) := by rw [w64 (by omega) (by omega)]; omega
      rw [e1, sm_t hs]
      simp (disch := omega) only [ev_lt_t, ev_le_t, Bool.and_self, cond_true, byI_mk, Int.toNat_natCast, ev_eq_f, cond_false, eSs_len, roomN_t, w64]
      have e2 : (mk s).extract p s.length = mk (no10 (s.drop p)) := by
        rw [ext_all]
        congr 1
        rw [← htk, List.take_of_length_le (by rw [List.length_drop]; omega)]
      rw [e2]
      rw [← eSs_snoc'] at ih
      exact .go (by simpa [eSs, eS1] using ih)
theorem rlines_holds : Holds k_rlines := conT_of (ks := [k_starts, k_stop]) (hold1 starts_holds (hold1 stop_holds hold0)) fun s g => by
  have g' := sm_of g
  refine Runs.by (rlines_e · _) ?_
  rw [bl_mk, g]
  have h1 := stF_len s 0 true
  have := rlines_loop s g' (stF 0 s true) (fun p hp => by have := stF_lt s 0 true p hp; omega) (by omega) (stF 0 s true).length 0 [] (Nat.zero_add _) (Nat.le_refl _)
  rw [List.drop_zero] at this
  exact .go this
end Go.Ab
namespace Go.Ab
open Go.Proofs

theorem encE_eq (e : Ev) : encE e = [L.int IntKind.i64 e.kind, L.str (mk e.repo), L.str (mk e.name), L.str (mk e.other), L.int IntKind.i64 e.who, L.int IntKind.i64 e.n, L.int IntKind.i64 e.m, L.int IntKind.i64 e.k, L.str (mk e.text), L.str (mk e.gname), L.lst 3 (eIs e.users), L.lst 9 (eSs e.groups), L.lst 65 (eRs e.rules), L.lst 51 (eWs e.writes)] := rfl
theorem eEs_snoc (l : List Ev) (e : Ev) : eEs l ++ [encE e] = eEs (l ++ [e]) := by simp [eEs]
/-- A line is read, or passed over: in either program. -/
theorem read_runs {C : Cfg} (f : W → Ev × Int) (w : W) (i : Nat) (acc : List Ev) (hi : i ≤ 1000000) (ha : acc.length ≤ 1000000) (hw : w.length ≤ 1000000) (Q : Int → List (List L) → Req) (T : List L)
    (h1 : skp w = true → Runs C (Q ((i : Int) + 1) (eEs acc)) T)
    (h2 : skp w = false → psE (f w) acc.length ≠ 0 → T = prL ⟨[], (i : Int) + 1, psE (f w) acc.length⟩)
    (h3 : skp w = false → psE (f w) acc.length = 0 → Runs C (Q ((i : Int) + 1) (eEs (acc ++ [(f w).1]))) T) :
    RunsF C (fun G => cond (bl (mk w) == bl (mk []))
      (G (Q (wrapI IntKind.i64 ((i : Int) + 1)) (eEs acc)))
      (cond (ltI 0 ((mk w).size : Nat))
       (cond (byI (mk w) 0 == 35)
        (G (Q (wrapI IntKind.i64 ((i : Int) + 1)) (eEs acc)))
        (cond (sm (mk w).size)
         (cond (Prod.snd (f (bl (mk w))) == 0)
          (cond (leI 400 ((eEs acc).length : Nat))
           (some [(.lst 42 []), (.int IntKind.i64 (wrapI IntKind.i64 ((i : Int) + 1))), (.int IntKind.i64 (4))])
           (cond (Prod.snd (f (bl (mk w))) != 0)
            (some [(.lst 42 []), (.int IntKind.i64 (wrapI IntKind.i64 ((i : Int) + 1))), (.int IntKind.i64 (Prod.snd (f (bl (mk w)))))])
            (cond (roomN ((eEs acc).length + 1) 216)
             (G (Q (wrapI IntKind.i64 ((i : Int) + 1)) (eEs acc ++ [encE (f (bl (mk w))).1])))
             none)))
          (cond (Prod.snd (f (bl (mk w))) != 0)
           (some [(.lst 42 []), (.int IntKind.i64 (wrapI IntKind.i64 ((i : Int) + 1))), (.int IntKind.i64 (Prod.snd (f (bl (mk w)))))])
           (cond (roomN ((eEs acc).length + 1) 216)
            (G (Q (wrapI IntKind.i64 ((i : Int) + 1)) (eEs acc ++ [encE (f (bl (mk w))).1])))
            none)))
         none))
       none)) T := by
  simp (disch := omega) only [bl_mk, size_mk, w64, eEs_len, roomN_t, cond_true, eEs_snoc, sm_t hw]
  rw [show (w == []) = w.isEmpty from by cases w <;> rfl]
  cases w with
  | nil => exact .go (h1 rfl)
  | cons c t =>
    have e0 : byI (mk (c :: t)) 0 = (c.toNat : Int) := byI_mk (c :: t) 0
    have es : skp (c :: t) = (c.toNat == 35) := rfl
    rw [e0, show (((c.toNat : Nat) : Int) == 35) = (c.toNat == 35) from by rw [Bool.eq_iff_iff, beq_iff_eq, beq_iff_eq]; omega]
    rw [es] at h1 h2 h3
    simp (disch := simp only [List.length_cons]; omega) only [List.isEmpty_cons, cond_false, ev_lt_t, cond_true]
    cases hc : c.toNat == 35
    · simp only [cond_false]
      by_cases hx : (f (c :: t)).2 = 0
      · rw [show ((f (c :: t)).2 == 0) = true from by rw [hx]; rfl, show ((f (c :: t)).2 != 0) = false from ev_ne_f hx]
        simp only [cond_true, cond_false]
        by_cases h4 : 400 ≤ acc.length
        · have hp : psE (f (c :: t)) acc.length = 4 := if_pos ⟨hx, h4⟩
          rw [h2 hc (by rw [hp]; decide), hp, ev_le_t (by omega)]
          exact .ret
        · have hp : psE (f (c :: t)) acc.length = 0 := (if_neg fun h => h4 h.2).trans hx
          rw [ev_le_f (by omega)]
          exact .go (h3 hc hp)
      · have hp : psE (f (c :: t)) acc.length = (f (c :: t)).2 := if_neg fun h => hx h.1
        rw [show ((f (c :: t)).2 == 0) = false from by simpa using hx, show ((f (c :: t)).2 != 0) = true from ev_ne_t hx, h2 hc (by rw [hp]; exact hx), hp]
        exact .ret
    · exact .go (h1 hc)
theorem psR_cons (f : W → Ev × Int) (w : W) (ws : List W) (i : Nat) (acc : List Ev) : psR f (w :: ws) i acc = cond (skp w) (psR f ws (i + 1) acc) (if psE (f w) acc.length ≠ 0 then ⟨[], (i : Int) + 1, psE (f w) acc.length⟩ else psR f ws (i + 1) (acc ++ [(f w).1])) := rfl
theorem pparse_loop (ws : List W) (hl : ws.length ≤ 100000) (hw : ∀ w ∈ ws, w.length ≤ 1000000) : ∀ (m i : Nat) (acc : List Ev), i + m = ws.length → acc.length ≤ i →
    Runs (cfg [k_Split, k_pevent]) (pparse_q5 (eSs ws) (ws.length : Nat) (i : Nat) (eEs acc)) (prL (psR (evL pOps) (ws.drop i) i acc))
  | 0, i, acc, h, ha => by
    refine Runs.by (pparse_p5 · _ _ _ _) ?_
    rw [drop_end (l := ws) (by omega)]
    simp (disch := omega) only [ev_lt_f, cond_false]
    exact .ret
  | m + 1, i, acc, h, ha => by
    have hi : i < ws.length := by omega
    have ih := fun a (ha' : a.length ≤ i + 1) => pparse_loop ws hl hw m (i + 1) a (by omega) ha'
    have hx : atL (eSs ws) (i : Int) = eS1 (ws.getD i []) := atL_map _ ws i _ hi
    have hm : ws.getD i [] ∈ ws := by simp [List.getD, List.getElem?_eq_getElem hi]
    have hwl := hw _ hm
    refine Runs.by (pparse_p5 · _ _ _ _) ?_
    rw [drop_at [] hi, psR_cons]
    have e0 : cT 0 (eS1 (ws.getD i [])) = mk (ws.getD i []) := rfl
    rw [hx, e0]
    generalize ws.getD i [] = w at *
    rw [ev_lt_t (show (i : Int) < (ws.length : Nat) by omega), eSs_len, ev_lt_t (show (i : Int) < (ws.length : Nat) by omega), ev_le_t (show (0 : Int) ≤ (i : Nat) by omega)]
    refine read_runs (evL pOps) w i acc (by omega) (by omega) hwl (fun j a => pparse_q5 (eSs ws) (ws.length : Nat) j a) _ (fun hs => ?_) (fun hs hp => ?_) (fun hs hp => ?_)
    · rw [hs]
      exact ih acc (by omega)
    · rw [hs, cond_false, if_pos hp]
    · rw [hs, cond_false, if_neg (fun h => h hp)]
      exact ih _ (by rw [List.length_append, List.length_singleton]; omega)
theorem rparse_loop (ws : List W) (hl : ws.length ≤ 100000) (hw : ∀ w ∈ ws, w.length ≤ 1000000) : ∀ (m i : Nat) (acc : List Ev), i + m = ws.length → acc.length ≤ i →
    Runs (cfg [k_rlines, k_read]) (rparse_q6 (eSs ws) (i : Nat) (eEs acc)) (prL (psR (evL aOps) (ws.drop i) i acc))
  | 0, i, acc, h, ha => by
    refine Runs.by (rparse_p6 · _ _ _) ?_
    rw [drop_end (l := ws) (by omega)]
    simp (disch := omega) only [eSs_len, ev_lt_f, cond_false]
    exact .ret
  | m + 1, i, acc, h, ha => by
    have hi : i < ws.length := by omega
    have ih := fun a (ha' : a.length ≤ i + 1) => rparse_loop ws hl hw m (i + 1) a (by omega) ha'
    have hx : atL (eSs ws) (i : Int) = eS1 (ws.getD i []) := atL_map _ ws i _ hi
    have hm : ws.getD i [] ∈ ws := by simp [List.getD, List.getElem?_eq_getElem hi]
    have hwl := hw _ hm
    refine Runs.by (rparse_p6 · _ _ _) ?_
    rw [drop_at [] hi, psR_cons]
    have e0 : cT 0 (eS1 (ws.getD i [])) = mk (ws.getD i []) := rfl
    rw [hx, e0]
    generalize ws.getD i [] = w at *
    have b1 : ltI (i : Int) ((eSs ws).length : Nat) = true := ev_lt_t (by rw [eSs_len]; omega)
    have b2 : leI 0 (i : Int) = true := ev_le_t (by omega)
    rw [b1, b2]
    exact read_runs (evL aOps) w i acc (by omega) (by omega) hwl (fun j a => rparse_q6 (eSs ws) j a) _ (fun hs => by
      rw [hs]
      exact ih acc (by omega)) (fun hs hp => by
      rw [hs, cond_false, if_pos hp]) (fun hs hp => by
      rw [hs, cond_false, if_neg (fun h => h hp)]
      exact ih _ (by rw [List.length_append, List.length_singleton]; omega))
theorem spl_len (c : UInt8) : ∀ s : W, (spl c s).length ≤ s.length + 1 ∧ ∀ w ∈ spl c s, w.length ≤ s.length
  | [] => ⟨Nat.le_refl _, fun w h => by simp [spl] at h; simp [h]⟩
  | x :: s => by
    obtain ⟨h1, h2⟩ := spl_len c s
    rw [spl]
    split
    · refine ⟨by simp only [List.length_cons]; omega, fun w h => ?_⟩
      rcases List.mem_cons.1 h with rfl | h
      · simp
      · have := h2 w h
        simp only [List.length_cons]; omega
    · split
      · exact ⟨by simp, fun w h => by simp at h; simp [h]⟩
      · rename_i hd tl e
        rw [e] at h1 h2
        refine ⟨by simp only [List.length_cons] at h1 ⊢; omega, fun w h => ?_⟩
        rcases List.mem_cons.1 h with rfl | h
        · have := h2 hd List.mem_cons_self
          simp only [List.length_cons]; omega
        · have := h2 w (List.mem_cons_of_mem _ h)
          simp only [List.length_cons]; omega
theorem pparse_holds : Holds k_pparse := conT_of (ks := [k_Split, k_pevent]) (hold1 Split_holds (hold1 pevent_holds hold0)) fun s g => by
  have g' := sm_of g
  refine Runs.by (pparse_e · _) ?_
  unfold parP
  rw [size_mk]
  by_cases h : 8000 < s.length
  · rw [if_pos h, ev_lt_t (by omega)]
    exact .ret
  · obtain ⟨q1, q2⟩ := spl_len 10 s
    have := pparse_loop (spl 10 s) (by omega) (fun w hw => by have := q2 w hw; omega) (spl 10 s).length 0 [] (Nat.zero_add _) (Nat.le_refl _)
    rw [if_neg h, ev_lt_f (by omega), nb (show s.length ≤ 1000000000 by omega), eSs_len]
    exact .go this
theorem rparse_holds : Holds k_rparse := conT_of (ks := [k_rlines, k_read]) (hold1 rlines_holds (hold1 read_holds hold0)) fun s g => by
  have g' := sm_of g
  refine Runs.by (rparse_e · _) ?_
  unfold parA
  rw [size_mk, bl_mk, g]
  by_cases h : 8000 < s.length
  · rw [if_pos h, ev_lt_t (by omega)]
    exact .ret
  · have h1 := stF_len s 0 true
    have hl : (rlines s).length ≤ s.length := by unfold rlines; rw [List.length_map]; exact h1
    have hw : ∀ w ∈ rlines s, w.length ≤ 1000000 := fun w hw => by
      obtain ⟨p, _, rfl⟩ := List.mem_map.1 hw
      have := no10_le (s.drop p)
      rw [List.length_drop] at this
      omega
    have := rparse_loop (rlines s) (by omega) hw (rlines s).length 0 [] (Nat.zero_add _) (Nat.le_refl _)
    rw [if_neg h, ev_lt_f (by omega)]
    exact .go this
end Go.Ab
namespace Go.Ab
open Go.Proofs

theorem sm_dm {x y : Rs} (h : Sm x y) (hd : Dm x) : Dm y := h.elim (fun h => by rw [← h.1]; exact hd) fun h => h.2
/-- Groups. -/
theorem lG_sm : ∀ (f g : Nat) (x : Rs) (u : List Int) (gs : List W), x.1.length < f → x.1.length < g → Sm x x → Sm (lpG f x u gs).2 (lqG g x u gs).2 ∧ (¬ Dm (lpG f x u gs).2 → (lpG f x u gs).1 = (lqG g x u gs).1)
  | 0, _, _, _, _, h, _, _ => absurd h (Nat.not_lt_zero _)
  | _, 0, _, _, _, _, h, _ => absurd h (Nat.not_lt_zero _)
  | f + 1, g + 1, x, u, gs, hf, hg, hs => by
    by_cases hdx : Dm x
    · exact ⟨.inr ⟨lpG_dm _ _ _ _ hdx, lqG_dm _ _ _ _ hdx⟩, fun h => absurd (lpG_dm _ _ _ _ hdx) h⟩
    · obtain ⟨s1, v1⟩ := stepW hs
      cases hm : mo x with
      | false =>
        have e1 : lpG (f + 1) x u gs = ((u, gs), x) := by rw [lpG, hm]; rfl
        have e2 : lqG (g + 1) x u gs = ((u, gs), x) := by rw [lqG, hm]; rfl
        rw [e1, e2]
        exact ⟨hs, fun _ => rfl⟩
      | true =>
        have both : Dm (lpG (f + 1) x u gs).2 → Dm (lqG (g + 1) x u gs).2 → Sm (lpG (f + 1) x u gs).2 (lqG (g + 1) x u gs).2 ∧ (¬ Dm (lpG (f + 1) x u gs).2 → (lpG (f + 1) x u gs).1 = (lqG (g + 1) x u gs).1) := fun h1 h2 => ⟨.inr ⟨h1, h2⟩, fun h => absurd h1 h⟩
        by_cases hd1 : Dm (sW x)
        · have hd1' : Dm (sAW x) := sm_dm s1 hd1
          refine both ?_ ?_
          · rw [lpG, hm]
            cases vW x == wUser && gs.isEmpty
            · cases vW x == wGroup
              · exact .inl (by show (lpG f ((sW x).1, true) u gs).2.2 = true; rw [lpG_bad f _ u gs rfl])
              · exact lpG_dm _ _ _ _ (dW hd1)
            · exact lpG_dm _ _ _ _ (dN hd1)
          · rw [lqG, hm]
            cases vAW x == wUser
            · cases vAW x == wGroup
              · exact .inl (by show (lqG g ((sAW x).1, true) u gs).2.2 = true; rw [lqG_bad g _ u gs rfl])
              · exact lqG_dm _ _ _ _ (dAW hd1')
            · cases gs.isEmpty
              · exact lqG_dm _ _ _ _ (dAN (.inl rfl))
              · exact lqG_dm _ _ _ _ (dAN hd1')
        · have ev := v1 hd1
          have hl := nd_len hm hd1
          obtain ⟨s2, v2⟩ := stepW s1
          obtain ⟨s3, v3⟩ := stepNm s1
          clear both
          rw [lpG, lqG, hm, ← ev]
          simp only [cond_true]
          cases hp : vW x == wUser
          · rw [Bool.false_and]
            simp only [cond_false]
            cases hq : vW x == wGroup
            · simp only [cond_false]
              rw [lpG_bad f _ u gs rfl, lqG_bad g _ u gs rfl]
              exact ⟨.inr ⟨.inl rfl, .inl rfl⟩, fun h => absurd (.inl rfl) h⟩
            · simp only [cond_true]
              by_cases hd2 : Dm (sW (sW x))
              · exact ⟨.inr ⟨lpG_dm _ _ _ _ hd2, lqG_dm _ _ _ _ (sm_dm s2 hd2)⟩, fun h => absurd (lpG_dm _ _ _ _ hd2) h⟩
              · have e2 := s2.good hd2
                rw [← v2 hd2, ← e2]
                have := sW_len (sW x)
                exact lG_sm f g (sW (sW x)) _ _ (by omega) (by omega) good_sm
          · rw [Bool.true_and]
            cases hge : gs.isEmpty
            · have hq : (vW x == wGroup) = false := by
                have hw : vW x = wUser := by simpa using hp
                rw [hw]; rfl
              rw [hq]
              simp only [cond_false, cond_true]
              rw [lpG_bad f _ u gs rfl]
              exact ⟨.inr ⟨.inl rfl, lqG_dm _ _ _ _ (dAN (.inl rfl))⟩, fun h => absurd (.inl rfl) h⟩
            · simp only [cond_true]
              by_cases hd2 : Dm (sN (sW x))
              · exact ⟨.inr ⟨lpG_dm _ _ _ _ hd2, lqG_dm _ _ _ _ (sm_dm s3 hd2)⟩, fun h => absurd (lpG_dm _ _ _ _ hd2) h⟩
              · have e2 := s3.good hd2
                rw [← v3 hd2, ← e2]
                have := sN_len (sW x)
                exact lG_sm f g (sN (sW x)) _ _ (by omega) (by omega) good_sm
/-- Rules. -/
theorem lR_sm : ∀ (f g : Nat) (x : Rs) (a : List Ru), x.1.length < f → x.1.length < g → Sm x x → Sm (lpR f x a).2 (lqR g x a).2 ∧ (¬ Dm (lpR f x a).2 → (lpR f x a).1 = (lqR g x a).1)
  | 0, _, _, _, h, _, _ => absurd h (Nat.not_lt_zero _)
  | _, 0, _, _, _, h, _ => absurd h (Nat.not_lt_zero _)
  | f + 1, g + 1, x, a, hf, hg, hs => by
    by_cases hdx : Dm x
    · exact ⟨.inr ⟨lpR_dm _ _ _ hdx, lqR_dm _ _ _ hdx⟩, fun h => absurd (lpR_dm _ _ _ hdx) h⟩
    · obtain ⟨s1, v1⟩ := stepW hs
      cases hm : mo x with
      | false =>
        have e1 : lpR (f + 1) x a = (a, x) := by rw [lpR, hm]; rfl
        have e2 : lqR (g + 1) x a = (a, x) := by rw [lqR, hm]; rfl
        rw [e1, e2]
        exact ⟨hs, fun _ => rfl⟩
      | true =>
        have key : ∀ (P Q : Prop), (Dm (lpR (f + 1) x a).2 ∧ Dm (lqR (g + 1) x a).2) → Sm (lpR (f + 1) x a).2 (lqR (g + 1) x a).2 ∧ (¬ Dm (lpR (f + 1) x a).2 → (lpR (f + 1) x a).1 = (lqR (g + 1) x a).1) := fun _ _ h => ⟨.inr h, fun h' => absurd h.1 h'⟩
        have ep : lpR (f + 1) x a = lpR f ((sW (sW (sW (sW x)))).1, (sW (sW (sW (sW x)))).2 || (!(vW x == wAllow) && !(vW x == wDeny))) (a ++ [(vW x == wAllow, vW (sW x), rp (vW (sW (sW x))), vW (sW (sW (sW x))))]) := by rw [lpR, hm]; rfl
        have eq : lqR (g + 1) x a = lqR g (sAW (sAW (sAW ((sAW x).1, (sAW x).2 || !okR (vAW x))))) (a ++ [(vAW x == wAllow, vAW ((sAW x).1, (sAW x).2 || !okR (vAW x)), rp (vAW (sAW ((sAW x).1, (sAW x).2 || !okR (vAW x)))), vAW (sAW (sAW ((sAW x).1, (sAW x).2 || !okR (vAW x)))))]) := by rw [lqR, hm]; rfl
        have okn : (!(vW x == wAllow) && !(vW x == wDeny)) = !okR (vW x) := by unfold okR; rw [Bool.not_or]
        by_cases hd1 : Dm (sW x)
        · have hd1' : Dm (sAW x) := sm_dm s1 hd1
          have hb1 : Dm (((sAW x).1, (sAW x).2 || !okR (vAW x)) : Rs) := by
            rcases hd1' with h | h
            · exact .inl (by show ((sAW x).2 || _) = true; rw [h]; rfl)
            · cases hh : ((sAW x).2 || !okR (vAW x))
              · exact .inr h
              · exact .inl rfl
          refine key True True ⟨?_, ?_⟩
          · rw [ep]
            exact lpR_dm _ _ _ (.inl (by show ((sW (sW (sW (sW x)))).2 || _) = true; rw [bad_sW (bad_sW (dm_sW hd1))]; rfl))
          · rw [eq]
            exact lqR_dm _ _ _ (dAW (dAW (dAW hb1)))
        · have ev := v1 hd1
          have hl := nd_len hm hd1
          have e1 := s1.good hd1
          by_cases hok : okR (vW x) = true
          · have ey : (((sAW x).1, (sAW x).2 || !okR (vAW x)) : Rs) = sAW x := by rw [← ev, hok, Bool.not_true, Bool.or_false]
            obtain ⟨s2, v2⟩ := stepW s1
            obtain ⟨s3, v3⟩ := stepW s2
            obtain ⟨s4, v4⟩ := stepW s3
            rw [ey] at eq
            rw [okn, hok, Bool.not_true, Bool.or_false] at ep
            rw [ep, eq]
            by_cases hd4 : Dm (sW (sW (sW (sW x))))
            · exact ⟨.inr ⟨lpR_dm _ _ _ hd4, lqR_dm _ _ _ (sm_dm s4 hd4)⟩, fun h => absurd (lpR_dm _ _ _ hd4) h⟩
            · have hd3 : ¬ Dm (sW (sW (sW x))) := fun h => hd4 (dW h)
              have hd2 : ¬ Dm (sW (sW x)) := fun h => hd3 (dW h)
              have e4 := s4.good hd4
              rw [← ev, ← v2 hd2, ← v3 hd3, ← v4 hd4, ← e4]
              have l2 := sW_len (sW x)
              have l3 := sW_len (sW (sW x))
              have l4 := sW_len (sW (sW (sW x)))
              exact lR_sm f g (sW (sW (sW (sW x)))) _ (by omega) (by omega) good_sm
          · have hok : okR (vW x) = false := by simpa using hok
            refine key True True ⟨?_, ?_⟩
            · rw [ep, okn, hok]
              exact lpR_dm _ _ _ (.inl (by show ((sW (sW (sW (sW x)))).2 || true) = true; rw [Bool.or_true]))
            · rw [eq, ← ev, hok]
              exact lqR_dm _ _ _ (dAW (dAW (dAW (.inl (by show ((sAW x).2 || true) = true; rw [Bool.or_true])))))

/-! ### events -/
def Es (r r' : Ev × Rs) : Prop := Sm r.2 r'.2 ∧ (¬ Dm r.2 → r.1 = r'.1)
theorem es_repo (k : Int) {x : Rs} (h : Sm x x) : Es (evRepo pOps k x) (evRepo aOps k x) := by
  obtain ⟨s1, v1⟩ := stepW h
  refine ⟨s1, fun hd => ?_⟩
  show ({ ev0 k with repo := vW x } : Ev) = { ev0 k with repo := vAW x }
  rw [v1 hd]
theorem es_1 (k : Int) {x : Rs} (h : Sm x x) : Es (ev1 pOps k x) (ev1 aOps k x) := by
  obtain ⟨s1, v1⟩ := stepNm h
  refine ⟨s1, fun hd => ?_⟩
  show ({ ev0 k with n := vN x } : Ev) = { ev0 k with n := vAN x }
  rw [v1 hd]
theorem es_2 (k : Int) {x : Rs} (h : Sm x x) : Es (ev2 pOps k x) (ev2 aOps k x) := by
  obtain ⟨s1, v1⟩ := stepNm h
  obtain ⟨s2, v2⟩ := stepNm s1
  refine ⟨s2, fun hd => ?_⟩
  have hd1 : ¬ Dm (sN x) := fun h => hd (dN h)
  show ({ ev0 k with n := vN x, m := vN (sN x) } : Ev) = { ev0 k with n := vAN x, m := vAN (sAN x) }
  rw [v1 hd1, v2 hd]
theorem es_3 (k : Int) {x : Rs} (h : Sm x x) : Es (ev3 pOps k x) (ev3 aOps k x) := by
  obtain ⟨s1, v1⟩ := stepNm h
  obtain ⟨s2, v2⟩ := stepNm s1
  obtain ⟨s3, v3⟩ := stepNm s2
  refine ⟨s3, fun hd => ?_⟩
  have hd2 : ¬ Dm (sN (sN x)) := fun h => hd (dN h)
  have hd1 : ¬ Dm (sN x) := fun h => hd2 (dN h)
  show ({ ev0 k with n := vN x, m := vN (sN x), k := vN (sN (sN x)) } : Ev) = { ev0 k with n := vAN x, m := vAN (sAN x), k := vAN (sAN (sAN x)) }
  rw [v1 hd1, v2 hd2, v3 hd]
theorem es_del (k : Int) {x : Rs} (h : Sm x x) : Es (evDel pOps k x) (evDel aOps k x) := by
  obtain ⟨s1, v1⟩ := stepNm h
  obtain ⟨s2, v2⟩ := stepNm s1
  obtain ⟨s3, v3⟩ := stepNm s2
  refine ⟨s3, fun hd => ?_⟩
  have hd2 : ¬ Dm (sN (sN x)) := fun h => hd (dN h)
  have hd1 : ¬ Dm (sN x) := fun h => hd2 (dN h)
  show ({ ev0 k with who := vN x, n := vN (sN x), k := vN (sN (sN x)) } : Ev) = { ev0 k with who := vAN x, n := vAN (sAN x), k := vAN (sAN (sAN x)) }
  rw [v1 hd1, v2 hd2, v3 hd]
theorem es_dro (k : Int) {x : Rs} (h : Sm x x) : Es (evDro pOps k x) (evDro aOps k x) := by
  obtain ⟨s1, v1⟩ := stepW h
  obtain ⟨s2, v2⟩ := stepW s1
  refine ⟨s2, fun hd => ?_⟩
  have hd1 : ¬ Dm (sW x) := fun h => hd (dW h)
  show ({ ev0 k with repo := vW x, name := vW (sW x) } : Ev) = { ev0 k with repo := vAW x, name := vAW (sAW x) }
  rw [v1 hd1, v2 hd]
theorem es_bra (k : Int) {x : Rs} (h : Sm x x) : Es (evBra pOps k x) (evBra aOps k x) := by
  obtain ⟨s1, v1⟩ := stepW h
  obtain ⟨s2, v2⟩ := stepW s1
  obtain ⟨s3, v3⟩ := stepW s2
  refine ⟨s3, fun hd => ?_⟩
  have hd2 : ¬ Dm (sW (sW x)) := fun h => hd (dW h)
  have hd1 : ¬ Dm (sW x) := fun h => hd2 (dW h)
  show ({ ev0 k with repo := vW x, name := vW (sW x), other := vW (sW (sW x)) } : Ev) = { ev0 k with repo := vAW x, name := vAW (sAW x), other := vAW (sAW (sAW x)) }
  rw [v1 hd1, v2 hd2, v3 hd]
theorem es_for (k : Int) {x : Rs} (h : Sm x x) : Es (evFor pOps k x) (evFor aOps k x) := by
  obtain ⟨s1, v1⟩ := stepW h
  obtain ⟨s2, v2⟩ := stepW s1
  obtain ⟨s3, v3⟩ := stepW s2
  obtain ⟨s4, v4⟩ := stepNm s3
  refine ⟨s4, fun hd => ?_⟩
  have hd3 : ¬ Dm (sW (sW (sW x))) := fun h => hd (dN h)
  have hd2 : ¬ Dm (sW (sW x)) := fun h => hd3 (dW h)
  have hd1 : ¬ Dm (sW x) := fun h => hd2 (dW h)
  show ({ ev0 k with repo := vW x, name := vW (sW x), other := vW (sW (sW x)), who := vN (sW (sW (sW x))) } : Ev) = { ev0 k with repo := vAW x, name := vAW (sAW x), other := vAW (sAW (sAW x)), who := vAN (sAW (sAW (sAW x))) }
  rw [v1 hd1, v2 hd2, v3 hd3, v4 hd]
theorem es_sav (k : Int) {x : Rs} (h : Sm x x) : Es (evSav pOps k x) (evSav aOps k x) := by
  obtain ⟨s1, v1⟩ := stepNm h
  obtain ⟨s2, v2⟩ := stepT s1
  refine ⟨s2, fun hd => ?_⟩
  have hd1 : ¬ Dm (sN x) := fun h => hd (dT h)
  show ({ ev0 k with who := vN x, text := vT (sN x) } : Ev) = { ev0 k with who := vAN x, text := vAT (sAN x) }
  rw [v1 hd1, v2 hd]
theorem es_sea (k : Int) {x : Rs} (h : Sm x x) : Es (evSea pOps k x) (evSea aOps k x) := by
  obtain ⟨s1, v1⟩ := stepNm h
  obtain ⟨s2, v2⟩ := stepT s1
  obtain ⟨s3, v3⟩ := stepNm s2
  obtain ⟨s4, v4⟩ := stepNm s3
  obtain ⟨s5, v5⟩ := stepNm s4
  refine ⟨s5, fun hd => ?_⟩
  have hd4 : ¬ Dm (sN (sN (sT (sN x)))) := fun h => hd (dN h)
  have hd3 : ¬ Dm (sN (sT (sN x))) := fun h => hd4 (dN h)
  have hd2 : ¬ Dm (sT (sN x)) := fun h => hd3 (dN h)
  have hd1 : ¬ Dm (sN x) := fun h => hd2 (dT h)
  show ({ ev0 k with who := vN x, text := vT (sN x), n := vN (sT (sN x)), m := vN (sN (sT (sN x))), k := vN (sN (sN (sT (sN x)))) } : Ev) = { ev0 k with who := vAN x, text := vAT (sAN x), n := vAN (sAT (sAN x)), m := vAN (sAN (sAT (sAN x))), k := vAN (sAN (sAN (sAT (sAN x)))) }
  rw [v1 hd1, v2 hd2, v3 hd3, v4 hd4, v5 hd]
theorem es_rew (k : Int) {x : Rs} (h : Sm x x) : Es (evRew pOps k x) (evRew aOps k x) := by
  obtain ⟨s1, v1⟩ := stepNm h
  obtain ⟨s2, v2⟩ := stepW s1
  obtain ⟨s3, v3⟩ := stepW s2
  obtain ⟨s4, v4⟩ := stepT s3
  obtain ⟨s5, v5⟩ := stepT s4
  refine ⟨s5, fun hd => ?_⟩
  have hd4 : ¬ Dm (sT (sW (sW (sN x)))) := fun h => hd (dT h)
  have hd3 : ¬ Dm (sW (sW (sN x))) := fun h => hd4 (dT h)
  have hd2 : ¬ Dm (sW (sN x)) := fun h => hd3 (dW h)
  have hd1 : ¬ Dm (sN x) := fun h => hd2 (dW h)
  show ({ ev0 k with who := vN x, repo := vW (sN x), name := vW (sW (sN x)), text := vT (sW (sW (sN x))), other := vT (sT (sW (sW (sN x)))) } : Ev) = { ev0 k with who := vAN x, repo := vAW (sAN x), name := vAW (sAW (sAN x)), text := vAT (sAW (sAW (sAN x))), other := vAT (sAT (sAW (sAW (sAN x)))) }
  rw [v1 hd1, v2 hd2, v3 hd3, v4 hd4, v5 hd]
theorem es_com (k : Int) {x : Rs} (h : Sm x x) : Es (evCom pOps k x) (evCom aOps k x) := by
  obtain ⟨s1, v1⟩ := stepW h
  obtain ⟨s2, v2⟩ := stepW s1
  obtain ⟨s3, v3⟩ := stepNm s2
  show Sm (lpW (fu (sN (sW (sW x)))) (sN (sW (sW x))) []).2 (lqW (fu (sAN (sAW (sAW x)))) (sAN (sAW (sAW x))) []).2 ∧ (¬ Dm (lpW (fu (sN (sW (sW x)))) (sN (sW (sW x))) []).2 → ({ ev0 k with repo := vW x, name := vW (sW x), who := vN (sW (sW x)), writes := (lpW (fu (sN (sW (sW x)))) (sN (sW (sW x))) []).1 } : Ev) = { ev0 k with repo := vAW x, name := vAW (sAW x), who := vAN (sAW (sAW x)), writes := (lqW (fu (sAN (sAW (sAW x)))) (sAN (sAW (sAW x))) []).1 })
  by_cases hd3 : Dm (sN (sW (sW x)))
  · exact ⟨.inr ⟨lpW_dm _ _ _ hd3, lqW_dm _ _ _ (sm_dm s3 hd3)⟩, fun h => absurd (lpW_dm _ _ _ hd3) h⟩
  · have hd2 : ¬ Dm (sW (sW x)) := fun h => hd3 (dN h)
    have hd1 : ¬ Dm (sW x) := fun h => hd2 (dW h)
    have e := s3.good hd3
    rw [← e, ← v1 hd1, ← v2 hd2, ← v3 hd3]
    have := lW_sm (fu (sN (sW (sW x)))) (fu (sN (sW (sW x)))) (sN (sW (sW x))) [] (Nat.lt_succ_self _) (Nat.lt_succ_self _) good_sm
    exact ⟨this.1, fun hd => by rw [this.2 hd]⟩
theorem es_grp (k : Int) {x : Rs} (h : Sm x x) : Es (evGrp pOps k x) (evGrp aOps k x) := by
  obtain ⟨s1, v1⟩ := stepW h
  show Sm (lpG (fu (sW x)) (sW x) [] []).2 (lqG (fu (sAW x)) (sAW x) [] []).2 ∧ (¬ Dm (lpG (fu (sW x)) (sW x) [] []).2 → ({ ev0 k with gname := vW x, users := (lpG (fu (sW x)) (sW x) [] []).1.1, groups := (lpG (fu (sW x)) (sW x) [] []).1.2 } : Ev) = { ev0 k with gname := vAW x, users := (lqG (fu (sAW x)) (sAW x) [] []).1.1, groups := (lqG (fu (sAW x)) (sAW x) [] []).1.2 })
  by_cases hd1 : Dm (sW x)
  · exact ⟨.inr ⟨lpG_dm _ _ _ _ hd1, lqG_dm _ _ _ _ (sm_dm s1 hd1)⟩, fun h => absurd (lpG_dm _ _ _ _ hd1) h⟩
  · have e := s1.good hd1
    rw [← e, ← v1 hd1]
    have := lG_sm (fu (sW x)) (fu (sW x)) (sW x) [] [] (Nat.lt_succ_self _) (Nat.lt_succ_self _) good_sm
    exact ⟨this.1, fun hd => by rw [this.2 hd]⟩
theorem es_rul (k : Int) {x : Rs} (h : Sm x x) : Es (evRul pOps k x) (evRul aOps k x) := by
  have := lR_sm (fu x) (fu x) x [] (Nat.lt_succ_self _) (Nat.lt_succ_self _) h
  refine ⟨this.1, fun hd => ?_⟩
  show ({ ev0 k with rules := (lpR (fu x) x []).1 } : Ev) = { ev0 k with rules := (lqR (fu x) x []).1 }
  rw [this.2 hd]
theorem es_c {b : Bool} {r1 r1' r2 r2' : Ev × Rs} (h1 : Es r1 r1') (h2 : Es r2 r2') : Es (cond b r1 r2) (cond b r1' r2') := by
  cases b
  · exact h2
  · exact h1
theorem es_all (k : Int) {x : Rs} (h : Sm x x) : Es (evG pOps k x) (evG aOps k x) :=
  es_c (es_com k h) (es_c (es_bra k h) (es_c (es_dro k h) (es_c (es_for k h) (es_c (es_repo k h) (es_c (es_1 k h) (es_c (es_grp k h) (es_c (es_rul k h) (es_c (es_sea k h) (es_c (es_sav k h) (es_c (es_1 k h) (es_c (es_del k h) (es_c (es_1 k h) (es_c (es_2 k h) (es_c (es_3 k h) (es_c (es_2 k h) (es_c (es_2 k h) (es_c (es_3 k h) (es_c (es_repo k h) (es_c (es_rew k h) (es_c (es_repo k h) (⟨h, fun _ => rfl⟩)))))))))))))))))))))
theorem fin3_es {r r' : Ev × Rs} (h : Es r r') : fin3 r = fin3 r' := by
  obtain ⟨e, s, b⟩ := r
  obtain ⟨e', s', b'⟩ := r'
  obtain ⟨h1, h2⟩ := h
  rcases h1 with ⟨hx, hb, hs⟩ | ⟨d1, d2⟩
  · have hx : (s, b) = (s', b') := hx
    have hb : b = false := hb
    cases hx
    subst hb
    cases s with
    | nil =>
      have : e = e' := h2 (fun hd => by
        rcases hd with hd | hd
        · cases hd
        · exact hd.1 rfl)
      rw [this]
    | cons c t => rfl
  · have f : ∀ (e : Ev) (s : W) (b : Bool), Dm (s, b) → fin3 (e, (s, b)) = (ev0 0, 3) := fun e s b hd => by
      rcases hd with hd | hd
      · have hd : b = true := hd
        subst hd; rfl
      · have : s.isEmpty = false := by
          cases s with
          | nil => exact absurd rfl hd.1
          | cons => rfl
        unfold fin3
        show cond (b || !s.isEmpty) _ _ = _
        rw [this, Bool.not_false, Bool.or_true]; rfl
    rw [f e s b d1, f e' s' b' d2]
/-- Both readers of a line answer the same. -/
theorem evL_eq (s : W) : evL pOps s = evL aOps s := by
  unfold evL
  cases ct (upB s) == 0
  · exact fin3_es (es_all _ good_sm)
  · rfl

/-! ### texts -/
theorem spl_nil (c : UInt8) : spl c [] = [[]] := rfl
theorem spl_head (t : W) : ∃ tl, spl 10 t = no10 t :: tl := by
  induction t with
  | nil => exact ⟨[], rfl⟩
  | cons c t ih =>
    obtain ⟨tl, e⟩ := ih
    unfold spl no10
    rw [List.takeWhile_cons]
    by_cases h : c = 10
    · subst h
      exact ⟨_, rfl⟩
    · have hc : (c.toNat == 10) = false := by
        rw [beq_eq_false_iff_ne]
        exact fun e => h (UInt8.toNat_inj.1 e)
      rw [if_neg h, e, hc]
      exact ⟨tl, rfl⟩
theorem split_lines (full : W) : ∀ (t : W) (n : Nat), full.drop n = t → (∃ tl, (tl = [] ∨ tl = [[]]) ∧ ((stF n t true).map fun p => no10 (full.drop p)) ++ tl = spl 10 t) ∧ (∃ tl, (tl = [] ∨ tl = [[]]) ∧ ((stF n t false).map fun p => no10 (full.drop p)) ++ tl = (spl 10 t).tail)
  | [], n, h => ⟨⟨[[]], .inr rfl, rfl⟩, ⟨[], .inl rfl, rfl⟩⟩
  | c :: t, n, h => by
    have ht : full.drop (n + 1) = t := by
      have := congrArg (List.drop 1) h
      rw [List.drop_drop] at this
      exact this
    obtain ⟨⟨t1, a1, b1⟩, ⟨t2, a2, b2⟩⟩ := split_lines full t (n + 1) ht
    by_cases hc : c = 10
    · subst hc
      have es : spl 10 (10 :: t) = [] :: spl 10 t := by rw [spl, if_pos rfl]
      have e1 : stF n (10 :: t) true = n :: stF (n + 1) t true := rfl
      have e2 : stF n (10 :: t) false = stF (n + 1) t true := rfl
      refine ⟨⟨t1, a1, ?_⟩, ⟨t1, a1, ?_⟩⟩
      · rw [e1, es, List.map_cons, h, List.cons_append, b1]
        rfl
      · rw [e2, es, b1]; rfl
    · have hcb : (c.toNat == 10) = false := by
        rw [beq_eq_false_iff_ne]
        exact fun e => hc (UInt8.toNat_inj.1 e)
      obtain ⟨tl, eh⟩ := spl_head t
      have es : spl 10 (c :: t) = (c :: no10 t) :: tl := by rw [spl, if_neg hc, eh]
      have e1 : stF n (c :: t) true = n :: stF (n + 1) t false := by rw [stF, hcb]; rfl
      have e2 : stF n (c :: t) false = stF (n + 1) t false := by rw [stF, hcb]; rfl
      have en : no10 (c :: t) = c :: no10 t := by unfold no10; rw [List.takeWhile_cons, hcb]; rfl
      rw [eh] at b2
      refine ⟨⟨t2, a2, ?_⟩, ⟨t2, a2, ?_⟩⟩
      · rw [e1, es, List.map_cons, h, List.cons_append, b2, en]; rfl
      · rw [e2, es, b2]; rfl
theorem psR_nil1 (f : W → Ev × Int) : ∀ (ws : List W) (i : Nat) (acc : List Ev), psR f (ws ++ [[]]) i acc = psR f ws i acc
  | [], i, acc => rfl
  | w :: ws, i, acc => by
    rw [List.cons_append]
    show cond (skp w) (psR f (ws ++ [[]]) (i + 1) acc) _ = cond (skp w) (psR f ws (i + 1) acc) _
    rw [psR_nil1 f ws, psR_nil1 f ws]
theorem psR_congr {f g : W → Ev × Int} (h : ∀ w, f w = g w) : psR f = psR g := by
  have : f = g := funext h
  rw [this]
/-- Both readers of a text answer the same. -/
theorem parse_eq (s : W) : parP s = parA s := by
  unfold parP parA
  split
  · rfl
  · obtain ⟨⟨tl, a, b⟩, _⟩ := split_lines s s 0 rfl
    rw [psR_congr evL_eq, ← b]
    rcases a with rfl | rfl
    · rw [List.append_nil]; rfl
    · rw [psR_nil1]; rfl
end Go.Ab
namespace Go.Ab
open Go.Proofs
/-! codesearch/script.Reply -/
noncomputable def preply_q9 (x32 : List (List L)) (x33 : Int) (x34 : Int) (h0_0 : Int) (h0_1 : Int) (h0_2 : List (List L)) (h0_3 : List (List L)) (h0_4 : Bool) (h0_5 : Int) (h1 : List (List L)) : Req := .point 11 [] (todoAt Tryz.prog 11 9) ⟨[an, an, an, (.lf (.ptr 0 0)), an, (.lf (.row 1)), an, an, an, an, an, an, an, an, an, an, an, an, an, an, an, an, an, an, an, an, an, an, an, an, an, an, (.lf (.lst 54 x32)), (.lf (.int IntKind.i64 x33)), (.lf (.int IntKind.i64 x34)), an, an, an, an, an, an, an, an, an, an, an, an, an, an, an, an, an, an, an, an, an, an, an, an, an, an, an, an, an, an, an, an, an, an, an, an, an, an, an, an, an, an, an, an, an, an, an, an, an, an, an, an, an, an], [(.box [(.int IntKind.i64), (.int IntKind.i64), (.sl 54), (.sl 56), .bool, (.int IntKind.i64)] [(.int IntKind.i64 h0_0), (.int IntKind.i64 h0_1), (.lst 54 h0_2), (.lst 56 h0_3), (.bool h0_4), (.int IntKind.i64 h0_5)]), (.row 9 h1 true)]⟩
noncomputable def preply_q14 (x52 : List (List L)) (x53 : Int) (x54 : Int) (h0 : List (List L)) : Req := .point 11 [] (todoAt Tryz.prog 11 14) ⟨[an, an, an, an, an, (.lf (.row 0)), an, an, an, an, an, an, an, an, an, an, an, an, an, an, an, an, an, an, an, an, an, an, an, an, an, an, an, an, an, an, an, an, an, an, an, an, an, an, an, an, an, an, an, an, an, an, (.lf (.lst 56 x52)), (.lf (.int IntKind.i64 x53)), (.lf (.int IntKind.i64 x54)), an, an, an, an, an, an, an, an, an, an, an, an, an, an, an, an, an, an, an, an, an, an, an, an, an, an, an, an, an, an, an, an, an, an], [(.row 9 h0 true)]⟩
theorem preply_e (G : Req → R) (e0_0 : Int) (e0_1 : ByteArray) (e0_2 : ByteArray) (e0_3 : ByteArray) (e0_4 : Int) (e0_5 : Int) (e0_6 : Int) (e0_7 : Int) (e0_8 : ByteArray) (e0_9_0 : ByteArray) (e0_9_1 : List (List L)) (e0_9_2 : List (List L)) (e0_10 : List (List L)) (e0_11 : List (List L)) (r1_0 : Int) (r1_1 : Int) (r1_2_0 : List (List L)) (r1_2_1 : List (List L)) (r1_2_2 : Bool) (r1_3 : Int) : runB (cfg [k_Itoa, k_Join]) G (.enter 11 [(.agg [(.int IntKind.i64 (e0_0)), (.str (e0_1)), (.str (e0_2)), (.str (e0_3)), (.int IntKind.i64 (e0_4)), (.int IntKind.i64 (e0_5)), (.int IntKind.i64 (e0_6)), (.int IntKind.i64 (e0_7)), (.str (e0_8)), (.str (e0_9_0)), (.lst 3 e0_9_1), (.lst 9 e0_9_2), (.lst 65 e0_10), (.lst 51 e0_11)]), (.agg [(.int IntKind.i64 (r1_0)), (.int IntKind.i64 (r1_1)), (.lst 54 r1_2_0), (.lst 56 r1_2_1), (.bool (r1_2_2)), (.int IntKind.i64 (r1_3))])] []) =
  (cond (r1_0 != 0)
   (cond (i64B r1_0)
    (cond (leI (↑(6 + ByteArray.size (mk (it r1_0))) : Int) (IntKind.max IntKind.i64))
     (some [(.str (mk [101, 114, 114, 111, 114, 32] ++ mk (it r1_0)))])
     none)
    none)
   (cond (e0_0 == 9)
    (cond (i64B r1_3)
     (cond (r1_2_2)
      (G (preply_q9 r1_2_0 ((↑(List.length r1_2_0) : Int)) 0 r1_0 r1_1 r1_2_0 r1_2_1 r1_2_2 r1_3 (List.set [[L.str (mk [102, 111, 117, 110, 100])], [L.str (mk (it r1_3))], [L.str (mk [112, 97, 114, 116, 105, 97, 108])]] 2 [L.str (mk [99, 111, 109, 112, 108, 101, 116, 101])])))
      (G (preply_q9 r1_2_0 ((↑(List.length r1_2_0) : Int)) 0 r1_0 r1_1 r1_2_0 r1_2_1 r1_2_2 r1_3 ([[L.str (mk [102, 111, 117, 110, 100])], [L.str (mk (it r1_3))], [L.str (mk [112, 97, 114, 116, 105, 97, 108])]]))))
     none)
    (cond (e0_0 == 1)
     (cond (i64B r1_1)
      (cond (leI (↑(3 + ByteArray.size (mk (it r1_1))) : Int) (IntKind.max IntKind.i64))
       (some [(.str (mk [111, 107, 32] ++ mk (it r1_1)))])
       none)
      none)
     (cond (e0_0 == 4)
      (cond (i64B r1_1)
       (cond (leI (↑(3 + ByteArray.size (mk (it r1_1))) : Int) (IntKind.max IntKind.i64))
        (some [(.str (mk [111, 107, 32] ++ mk (it r1_1)))])
        none)
       none)
      (cond (e0_0 == 5)
       (cond (i64B r1_1)
        (cond (leI (↑(3 + ByteArray.size (mk (it r1_1))) : Int) (IntKind.max IntKind.i64))
         (some [(.str (mk [111, 107, 32] ++ mk (it r1_1)))])
         none)
        none)
       (cond (e0_0 == 10)
        (cond (i64B r1_1)
         (cond (leI (↑(3 + ByteArray.size (mk (it r1_1))) : Int) (IntKind.max IntKind.i64))
          (some [(.str (mk [111, 107, 32] ++ mk (it r1_1)))])
          none)
         none)
        (cond (e0_0 == 12)
         (cond (i64B r1_1)
          (cond (leI (↑(3 + ByteArray.size (mk (it r1_1))) : Int) (IntKind.max IntKind.i64))
           (some [(.str (mk [111, 107, 32] ++ mk (it r1_1)))])
           none)
          none)
         (cond (e0_0 == 13)
          (cond (i64B r1_1)
           (cond (leI (↑(3 + ByteArray.size (mk (it r1_1))) : Int) (IntKind.max IntKind.i64))
            (some [(.str (mk [111, 107, 32] ++ mk (it r1_1)))])
            none)
           none)
          (cond (e0_0 == 20)
           (cond (i64B r1_1)
            (cond (leI (↑(3 + ByteArray.size (mk (it r1_1))) : Int) (IntKind.max IntKind.i64))
             (some [(.str (mk [111, 107, 32] ++ mk (it r1_1)))])
             none)
            none)
           (cond (e0_0 == 21)
            (cond (i64B r1_1)
             (cond (leI (↑(3 + ByteArray.size (mk (it r1_1))) : Int) (IntKind.max IntKind.i64))
              (some [(.str (mk [111, 107, 32] ++ mk (it r1_1)))])
              none)
             none)
            (some [(.str (mk [111, 107]))]))))))))))) := by kernel_rfl
theorem preply_p9 (G : Req → R) (x32 : List (List L)) (x33 : Int) (x34 : Int) (h0_0 : Int) (h0_1 : Int) (h0_2 : List (List L)) (h0_3 : List (List L)) (h0_4 : Bool) (h0_5 : Int) (h1 : List (List L)) : runB (cfg [k_Itoa, k_Join]) G (preply_q9 x32 x33 x34 h0_0 h0_1 h0_2 h0_3 h0_4 h0_5 h1) =
  (cond (ltI x34 x33)
   (cond (leI 0 x34 && ltI x34 (↑(List.length x32) : Int))
    (dupN 1
     (cond (i64B (cI 0 (atL x32 x34)))
      (cond (leI (↑(ByteArray.size (mk (it (cI 0 (atL x32 x34)))) + 1) : Int) (IntKind.max IntKind.i64))
       (cond (i64B (cI 1 (atL x32 x34)))
        (cond (leI (↑(ByteArray.size (mk (it (cI 0 (atL x32 x34))) ++ mk [58]) + ByteArray.size (mk (it (cI 1 (atL x32 x34))))) : Int) (IntKind.max IntKind.i64))
         (cond (roomN (List.length h1 + 1) 16)
          (G (preply_q9 x32 x33 (wrapI IntKind.i64 (x34 + 1)) h0_0 h0_1 h0_2 h0_3 h0_4 h0_5 (h1 ++ [[L.str (mk (it (cI 0 (atL x32 x34))) ++ mk [58] ++ mk (it (cI 1 (atL x32 x34))))]])))
          none)
         none)
        none)
       none)
      none))
    none)
   (G (preply_q14 h0_3 ((↑(List.length h0_3) : Int)) 0 h1))) := by kernel_rfl
theorem preply_p14 (G : Req → R) (x52 : List (List L)) (x53 : Int) (x54 : Int) (h0 : List (List L)) : runB (cfg [k_Itoa, k_Join]) G (preply_q14 x52 x53 x54 h0) =
  (cond (ltI x54 x53)
   (cond (leI 0 x54 && ltI x54 (↑(List.length x52) : Int))
    (both
     (cond (i64B (cI 0 (atL x52 x54)))
      (both
       (cond (i64B (cI 1 (atL x52 x54)))
        (dupN 1
         (cond (i64B (cI 2 (atL x52 x54)))
          (cond (i64B (cI 3 (atL x52 x54)))
           (cond (roomN (List.length h0 + 5) 16)
            (G (preply_q14 x52 x53 (wrapI IntKind.i64 (x54 + 1)) (h0 ++ [[L.str (mk [115, 104, 97, 114, 100])], [L.str (mk (it (cI 0 (atL x52 x54))))], [L.str (mk (it (cI 1 (atL x52 x54))))], [L.str (mk (it (cI 2 (atL x52 x54))))], [L.str (mk (it (cI 3 (atL x52 x54))))]])))
            none)
           none)
          none))
        none)
       (both
        (both
         (cond (i64B (cI 1 (atL x52 x54)))
          (dupN 1
           (cond (i64B (cI 2 (atL x52 x54)))
            (cond (i64B (cI 3 (atL x52 x54)))
             (cond (roomN (List.length h0 + 5) 16)
              (G (preply_q14 x52 x53 (wrapI IntKind.i64 (x54 + 1)) (h0 ++ [[L.str (mk [115, 104, 97, 114, 100])], [L.str (mk (it (cI 0 (atL x52 x54))))], [L.str (mk (it (cI 1 (atL x52 x54))))], [L.str (mk (it (cI 2 (atL x52 x54))))], [L.str (mk (it (cI 3 (atL x52 x54))))]])))
              none)
             none)
            none))
          none)
         (cond (i64B (cI 1 (atL x52 x54)))
          (cond (i64B (cI 2 (atL x52 x54)))
           (cond (i64B (cI 3 (atL x52 x54)))
            (cond (roomN (List.length h0 + 5) 16)
             (G (preply_q14 x52 x53 (wrapI IntKind.i64 (x54 + 1)) (h0 ++ [[L.str (mk [115, 104, 97, 114, 100])], [L.str (mk (it (cI 0 (atL x52 x54))))], [L.str (mk (it (cI 1 (atL x52 x54))))], [L.str (mk (it (cI 2 (atL x52 x54))))], [L.str (mk (it (cI 3 (atL x52 x54))))]])))
             none)
            none)
           none)
          none))
        (dupN 1
         (cond (i64B (cI 1 (atL x52 x54)))
          (cond (i64B (cI 2 (atL x52 x54)))
           (cond (i64B (cI 3 (atL x52 x54)))
            (cond (roomN (List.length h0 + 5) 16)
             (G (preply_q14 x52 x53 (wrapI IntKind.i64 (x54 + 1)) (h0 ++ [[L.str (mk [115, 104, 97, 114, 100])], [L.str (mk (it (cI 0 (atL x52 x54))))], [L.str (mk (it (cI 1 (atL x52 x54))))], [L.str (mk (it (cI 2 (atL x52 x54))))], [L.str (mk (it (cI 3 (atL x52 x54))))]])))
             none)
            none)
           none)
          none))))
      none)
     (both
      (both
       (cond (i64B (cI 0 (atL x52 x54)))
        (both
         (cond (i64B (cI 1 (atL x52 x54)))
          (dupN 1
           (cond (i64B (cI 2 (atL x52 x54)))
            (cond (i64B (cI 3 (atL x52 x54)))
             (cond (roomN (List.length h0 + 5) 16)
              (G (preply_q14 x52 x53 (wrapI IntKind.i64 (x54 + 1)) (h0 ++ [[L.str (mk [115, 104, 97, 114, 100])], [L.str (mk (it (cI 0 (atL x52 x54))))], [L.str (mk (it (cI 1 (atL x52 x54))))], [L.str (mk (it (cI 2 (atL x52 x54))))], [L.str (mk (it (cI 3 (atL x52 x54))))]])))
              none)
             none)
            none))
          none)
         (both
          (both
           (cond (i64B (cI 1 (atL x52 x54)))
            (dupN 1
             (cond (i64B (cI 2 (atL x52 x54)))
              (cond (i64B (cI 3 (atL x52 x54)))
               (cond (roomN (List.length h0 + 5) 16)
                (G (preply_q14 x52 x53 (wrapI IntKind.i64 (x54 + 1)) (h0 ++ [[L.str (mk [115, 104, 97, 114, 100])], [L.str (mk (it (cI 0 (atL x52 x54))))], [L.str (mk (it (cI 1 (atL x52 x54))))], [L.str (mk (it (cI 2 (atL x52 x54))))], [L.str (mk (it (cI 3 (atL x52 x54))))]])))
                none)
               none)
              none))
            none)
           (cond (i64B (cI 1 (atL x52 x54)))
            (cond (i64B (cI 2 (atL x52 x54)))
             (cond (i64B (cI 3 (atL x52 x54)))
              (cond (roomN (List.length h0 + 5) 16)
               (G (preply_q14 x52 x53 (wrapI IntKind.i64 (x54 + 1)) (h0 ++ [[L.str (mk [115, 104, 97, 114, 100])], [L.str (mk (it (cI 0 (atL x52 x54))))], [L.str (mk (it (cI 1 (atL x52 x54))))], [L.str (mk (it (cI 2 (atL x52 x54))))], [L.str (mk (it (cI 3 (atL x52 x54))))]])))
               none)
              none)
             none)
            none))
          (dupN 1
           (cond (i64B (cI 1 (atL x52 x54)))
            (cond (i64B (cI 2 (atL x52 x54)))
             (cond (i64B (cI 3 (atL x52 x54)))
              (cond (roomN (List.length h0 + 5) 16)
               (G (preply_q14 x52 x53 (wrapI IntKind.i64 (x54 + 1)) (h0 ++ [[L.str (mk [115, 104, 97, 114, 100])], [L.str (mk (it (cI 0 (atL x52 x54))))], [L.str (mk (it (cI 1 (atL x52 x54))))], [L.str (mk (it (cI 2 (atL x52 x54))))], [L.str (mk (it (cI 3 (atL x52 x54))))]])))
               none)
              none)
             none)
            none))))
        none)
       (both
        (both
         (cond (i64B (cI 0 (atL x52 x54)))
          (both
           (cond (i64B (cI 1 (atL x52 x54)))
            (dupN 1
             (cond (i64B (cI 2 (atL x52 x54)))
              (cond (i64B (cI 3 (atL x52 x54)))
               (cond (roomN (List.length h0 + 5) 16)
                (G (preply_q14 x52 x53 (wrapI IntKind.i64 (x54 + 1)) (h0 ++ [[L.str (mk [115, 104, 97, 114, 100])], [L.str (mk (it (cI 0 (atL x52 x54))))], [L.str (mk (it (cI 1 (atL x52 x54))))], [L.str (mk (it (cI 2 (atL x52 x54))))], [L.str (mk (it (cI 3 (atL x52 x54))))]])))
                none)
               none)
              none))
            none)
           (cond (i64B (cI 1 (atL x52 x54)))
            (cond (i64B (cI 2 (atL x52 x54)))
             (cond (i64B (cI 3 (atL x52 x54)))
              (cond (roomN (List.length h0 + 5) 16)
               (G (preply_q14 x52 x53 (wrapI IntKind.i64 (x54 + 1)) (h0 ++ [[L.str (mk [115, 104, 97, 114, 100])], [L.str (mk (it (cI 0 (atL x52 x54))))], [L.str (mk (it (cI 1 (atL x52 x54))))], [L.str (mk (it (cI 2 (atL x52 x54))))], [L.str (mk (it (cI 3 (atL x52 x54))))]])))
               none)
              none)
             none)
            none))
          none)
         (cond (i64B (cI 0 (atL x52 x54)))
          (cond (i64B (cI 1 (atL x52 x54)))
           (cond (i64B (cI 2 (atL x52 x54)))
            (cond (i64B (cI 3 (atL x52 x54)))
             (cond (roomN (List.length h0 + 5) 16)
              (G (preply_q14 x52 x53 (wrapI IntKind.i64 (x54 + 1)) (h0 ++ [[L.str (mk [115, 104, 97, 114, 100])], [L.str (mk (it (cI 0 (atL x52 x54))))], [L.str (mk (it (cI 1 (atL x52 x54))))], [L.str (mk (it (cI 2 (atL x52 x54))))], [L.str (mk (it (cI 3 (atL x52 x54))))]])))
              none)
             none)
            none)
           none)
          none))
        (both
         (cond (i64B (cI 0 (atL x52 x54)))
          (dupN 1
           (cond (i64B (cI 1 (atL x52 x54)))
            (cond (i64B (cI 2 (atL x52 x54)))
             (cond (i64B (cI 3 (atL x52 x54)))
              (cond (roomN (List.length h0 + 5) 16)
               (G (preply_q14 x52 x53 (wrapI IntKind.i64 (x54 + 1)) (h0 ++ [[L.str (mk [115, 104, 97, 114, 100])], [L.str (mk (it (cI 0 (atL x52 x54))))], [L.str (mk (it (cI 1 (atL x52 x54))))], [L.str (mk (it (cI 2 (atL x52 x54))))], [L.str (mk (it (cI 3 (atL x52 x54))))]])))
               none)
              none)
             none)
            none))
          none)
         (cond (i64B (cI 0 (atL x52 x54)))
          (cond (i64B (cI 1 (atL x52 x54)))
           (cond (i64B (cI 2 (atL x52 x54)))
            (cond (i64B (cI 3 (atL x52 x54)))
             (cond (roomN (List.length h0 + 5) 16)
              (G (preply_q14 x52 x53 (wrapI IntKind.i64 (x54 + 1)) (h0 ++ [[L.str (mk [115, 104, 97, 114, 100])], [L.str (mk (it (cI 0 (atL x52 x54))))], [L.str (mk (it (cI 1 (atL x52 x54))))], [L.str (mk (it (cI 2 (atL x52 x54))))], [L.str (mk (it (cI 3 (atL x52 x54))))]])))
              none)
             none)
            none)
           none)
          none))))
      (both
       (both
        (cond (i64B (cI 0 (atL x52 x54)))
         (both
          (cond (i64B (cI 1 (atL x52 x54)))
           (dupN 1
            (cond (i64B (cI 2 (atL x52 x54)))
             (cond (i64B (cI 3 (atL x52 x54)))
              (cond (roomN (List.length h0 + 5) 16)
               (G (preply_q14 x52 x53 (wrapI IntKind.i64 (x54 + 1)) (h0 ++ [[L.str (mk [115, 104, 97, 114, 100])], [L.str (mk (it (cI 0 (atL x52 x54))))], [L.str (mk (it (cI 1 (atL x52 x54))))], [L.str (mk (it (cI 2 (atL x52 x54))))], [L.str (mk (it (cI 3 (atL x52 x54))))]])))
               none)
              none)
             none))
           none)
          (cond (i64B (cI 1 (atL x52 x54)))
           (cond (i64B (cI 2 (atL x52 x54)))
            (cond (i64B (cI 3 (atL x52 x54)))
             (cond (roomN (List.length h0 + 5) 16)
              (G (preply_q14 x52 x53 (wrapI IntKind.i64 (x54 + 1)) (h0 ++ [[L.str (mk [115, 104, 97, 114, 100])], [L.str (mk (it (cI 0 (atL x52 x54))))], [L.str (mk (it (cI 1 (atL x52 x54))))], [L.str (mk (it (cI 2 (atL x52 x54))))], [L.str (mk (it (cI 3 (atL x52 x54))))]])))
              none)
             none)
            none)
           none))
         none)
        (both
         (both
          (cond (i64B (cI 0 (atL x52 x54)))
           (both
            (cond (i64B (cI 1 (atL x52 x54)))
             (dupN 1
              (cond (i64B (cI 2 (atL x52 x54)))
               (cond (i64B (cI 3 (atL x52 x54)))
                (cond (roomN (List.length h0 + 5) 16)
                 (G (preply_q14 x52 x53 (wrapI IntKind.i64 (x54 + 1)) (h0 ++ [[L.str (mk [115, 104, 97, 114, 100])], [L.str (mk (it (cI 0 (atL x52 x54))))], [L.str (mk (it (cI 1 (atL x52 x54))))], [L.str (mk (it (cI 2 (atL x52 x54))))], [L.str (mk (it (cI 3 (atL x52 x54))))]])))
                 none)
                none)
               none))
             none)
            (cond (i64B (cI 1 (atL x52 x54)))
             (cond (i64B (cI 2 (atL x52 x54)))
              (cond (i64B (cI 3 (atL x52 x54)))
               (cond (roomN (List.length h0 + 5) 16)
                (G (preply_q14 x52 x53 (wrapI IntKind.i64 (x54 + 1)) (h0 ++ [[L.str (mk [115, 104, 97, 114, 100])], [L.str (mk (it (cI 0 (atL x52 x54))))], [L.str (mk (it (cI 1 (atL x52 x54))))], [L.str (mk (it (cI 2 (atL x52 x54))))], [L.str (mk (it (cI 3 (atL x52 x54))))]])))
                none)
               none)
              none)
             none))
           none)
          (cond (i64B (cI 0 (atL x52 x54)))
           (cond (i64B (cI 1 (atL x52 x54)))
            (cond (i64B (cI 2 (atL x52 x54)))
             (cond (i64B (cI 3 (atL x52 x54)))
              (cond (roomN (List.length h0 + 5) 16)
               (G (preply_q14 x52 x53 (wrapI IntKind.i64 (x54 + 1)) (h0 ++ [[L.str (mk [115, 104, 97, 114, 100])], [L.str (mk (it (cI 0 (atL x52 x54))))], [L.str (mk (it (cI 1 (atL x52 x54))))], [L.str (mk (it (cI 2 (atL x52 x54))))], [L.str (mk (it (cI 3 (atL x52 x54))))]])))
               none)
              none)
             none)
            none)
           none))
         (dupN 1
          (cond (i64B (cI 0 (atL x52 x54)))
           (cond (i64B (cI 1 (atL x52 x54)))
            (cond (i64B (cI 2 (atL x52 x54)))
             (cond (i64B (cI 3 (atL x52 x54)))
              (cond (roomN (List.length h0 + 5) 16)
               (G (preply_q14 x52 x53 (wrapI IntKind.i64 (x54 + 1)) (h0 ++ [[L.str (mk [115, 104, 97, 114, 100])], [L.str (mk (it (cI 0 (atL x52 x54))))], [L.str (mk (it (cI 1 (atL x52 x54))))], [L.str (mk (it (cI 2 (atL x52 x54))))], [L.str (mk (it (cI 3 (atL x52 x54))))]])))
               none)
              none)
             none)
            none)
           none))))
       (both
        (cond (i64B (cI 0 (atL x52 x54)))
         (dupN 1
          (cond (i64B (cI 1 (atL x52 x54)))
           (cond (i64B (cI 2 (atL x52 x54)))
            (cond (i64B (cI 3 (atL x52 x54)))
             (cond (roomN (List.length h0 + 5) 16)
              (G (preply_q14 x52 x53 (wrapI IntKind.i64 (x54 + 1)) (h0 ++ [[L.str (mk [115, 104, 97, 114, 100])], [L.str (mk (it (cI 0 (atL x52 x54))))], [L.str (mk (it (cI 1 (atL x52 x54))))], [L.str (mk (it (cI 2 (atL x52 x54))))], [L.str (mk (it (cI 3 (atL x52 x54))))]])))
              none)
             none)
            none)
           none))
         none)
        (both
         (both
          (cond (i64B (cI 0 (atL x52 x54)))
           (dupN 1
            (cond (i64B (cI 1 (atL x52 x54)))
             (cond (i64B (cI 2 (atL x52 x54)))
              (cond (i64B (cI 3 (atL x52 x54)))
               (cond (roomN (List.length h0 + 5) 16)
                (G (preply_q14 x52 x53 (wrapI IntKind.i64 (x54 + 1)) (h0 ++ [[L.str (mk [115, 104, 97, 114, 100])], [L.str (mk (it (cI 0 (atL x52 x54))))], [L.str (mk (it (cI 1 (atL x52 x54))))], [L.str (mk (it (cI 2 (atL x52 x54))))], [L.str (mk (it (cI 3 (atL x52 x54))))]])))
                none)
               none)
              none)
             none))
           none)
          (cond (i64B (cI 0 (atL x52 x54)))
           (cond (i64B (cI 1 (atL x52 x54)))
            (cond (i64B (cI 2 (atL x52 x54)))
             (cond (i64B (cI 3 (atL x52 x54)))
              (cond (roomN (List.length h0 + 5) 16)
               (G (preply_q14 x52 x53 (wrapI IntKind.i64 (x54 + 1)) (h0 ++ [[L.str (mk [115, 104, 97, 114, 100])], [L.str (mk (it (cI 0 (atL x52 x54))))], [L.str (mk (it (cI 1 (atL x52 x54))))], [L.str (mk (it (cI 2 (atL x52 x54))))], [L.str (mk (it (cI 3 (atL x52 x54))))]])))
               none)
              none)
             none)
            none)
           none))
         (dupN 1
          (cond (i64B (cI 0 (atL x52 x54)))
           (cond (i64B (cI 1 (atL x52 x54)))
            (cond (i64B (cI 2 (atL x52 x54)))
             (cond (i64B (cI 3 (atL x52 x54)))
              (cond (roomN (List.length h0 + 5) 16)
               (G (preply_q14 x52 x53 (wrapI IntKind.i64 (x54 + 1)) (h0 ++ [[L.str (mk [115, 104, 97, 114, 100])], [L.str (mk (it (cI 0 (atL x52 x54))))], [L.str (mk (it (cI 1 (atL x52 x54))))], [L.str (mk (it (cI 2 (atL x52 x54))))], [L.str (mk (it (cI 3 (atL x52 x54))))]])))
               none)
              none)
             none)
            none)
           none)))))))
    none)
   (cond (Nat.ble (List.length h0) 1000000 && (Nat.ble (List.length (jn (dSs h0))) 100000000 && true))
    (some [(.str (mk (jn (dSs h0))))])
    none)) := by kernel_rfl

end Go.Ab
namespace Go.Ab
open Go.Proofs
/-! codesearch/codesearchref54.Number -/
theorem rnum_e (G : Req → R) (m : Nat) (n0 : Int) : runB (cfg [(k_Number m)]) G (.enter 25 [(.lf (.int IntKind.i64 (n0)))] []) =
  (cond (leI 0 n0)
   (cond (ltI n0 10)
    (some [(.str (ByteArray.mk (List.toArray (List.map (fun c => UInt8.ofNat (Int.toNat (cI 0 c))) [[L.int IntKind.u8 (wrapI IntKind.u8 (wrapI IntKind.i64 (48 + n0)))]]))))])
    (cond (ltI (Int.tmod n0 10) 0)
     (cond (ltI (-10) n0)
      (cond (ltI n0 0)
       (some [(.str (mk [45] ++ ByteArray.mk (List.toArray (List.map (fun c => UInt8.ofNat (Int.toNat (cI 0 c))) [[L.int IntKind.u8 (wrapI IntKind.u8 (wrapI IntKind.i64 (48 + wrapI IntKind.i64 (0 - Int.tmod n0 10))))]]))))])
       (dupN 3
        (cond (gNum m (IntKind.wrap IntKind.i64 (Int.tdiv n0 10)))
         (cond (leI (↑(ByteArray.size (mk (it (IntKind.wrap IntKind.i64 (Int.tdiv n0 10)))) + ByteArray.size (ByteArray.mk (List.toArray (List.map (fun c => UInt8.ofNat (Int.toNat (cI 0 c))) [[L.int IntKind.u8 (wrapI IntKind.u8 (wrapI IntKind.i64 (48 + wrapI IntKind.i64 (0 - Int.tmod n0 10))))]])))) : Int) (IntKind.max IntKind.i64))
          (some [(.str (mk (it (IntKind.wrap IntKind.i64 (Int.tdiv n0 10))) ++ ByteArray.mk (List.toArray (List.map (fun c => UInt8.ofNat (Int.toNat (cI 0 c))) [[L.int IntKind.u8 (wrapI IntKind.u8 (wrapI IntKind.i64 (48 + wrapI IntKind.i64 (0 - Int.tmod n0 10))))]]))))])
          none)
         none)))
      (dupN 3
       (cond (gNum m (IntKind.wrap IntKind.i64 (Int.tdiv n0 10)))
        (cond (leI (↑(ByteArray.size (mk (it (IntKind.wrap IntKind.i64 (Int.tdiv n0 10)))) + ByteArray.size (ByteArray.mk (List.toArray (List.map (fun c => UInt8.ofNat (Int.toNat (cI 0 c))) [[L.int IntKind.u8 (wrapI IntKind.u8 (wrapI IntKind.i64 (48 + wrapI IntKind.i64 (0 - Int.tmod n0 10))))]])))) : Int) (IntKind.max IntKind.i64))
         (some [(.str (mk (it (IntKind.wrap IntKind.i64 (Int.tdiv n0 10))) ++ ByteArray.mk (List.toArray (List.map (fun c => UInt8.ofNat (Int.toNat (cI 0 c))) [[L.int IntKind.u8 (wrapI IntKind.u8 (wrapI IntKind.i64 (48 + wrapI IntKind.i64 (0 - Int.tmod n0 10))))]]))))])
         none)
        none)))
     (cond (ltI (-10) n0)
      (cond (ltI n0 0)
       (some [(.str (mk [45] ++ ByteArray.mk (List.toArray (List.map (fun c => UInt8.ofNat (Int.toNat (cI 0 c))) [[L.int IntKind.u8 (wrapI IntKind.u8 (wrapI IntKind.i64 (48 + Int.tmod n0 10)))]]))))])
       (dupN 3
        (cond (gNum m (IntKind.wrap IntKind.i64 (Int.tdiv n0 10)))
         (cond (leI (↑(ByteArray.size (mk (it (IntKind.wrap IntKind.i64 (Int.tdiv n0 10)))) + ByteArray.size (ByteArray.mk (List.toArray (List.map (fun c => UInt8.ofNat (Int.toNat (cI 0 c))) [[L.int IntKind.u8 (wrapI IntKind.u8 (wrapI IntKind.i64 (48 + Int.tmod n0 10)))]])))) : Int) (IntKind.max IntKind.i64))
          (some [(.str (mk (it (IntKind.wrap IntKind.i64 (Int.tdiv n0 10))) ++ ByteArray.mk (List.toArray (List.map (fun c => UInt8.ofNat (Int.toNat (cI 0 c))) [[L.int IntKind.u8 (wrapI IntKind.u8 (wrapI IntKind.i64 (48 + Int.tmod n0 10)))]]))))])
          none)
         none)))
      (dupN 3
       (cond (gNum m (IntKind.wrap IntKind.i64 (Int.tdiv n0 10)))
        (cond (leI (↑(ByteArray.size (mk (it (IntKind.wrap IntKind.i64 (Int.tdiv n0 10)))) + ByteArray.size (ByteArray.mk (List.toArray (List.map (fun c => UInt8.ofNat (Int.toNat (cI 0 c))) [[L.int IntKind.u8 (wrapI IntKind.u8 (wrapI IntKind.i64 (48 + Int.tmod n0 10)))]])))) : Int) (IntKind.max IntKind.i64))
         (some [(.str (mk (it (IntKind.wrap IntKind.i64 (Int.tdiv n0 10))) ++ ByteArray.mk (List.toArray (List.map (fun c => UInt8.ofNat (Int.toNat (cI 0 c))) [[L.int IntKind.u8 (wrapI IntKind.u8 (wrapI IntKind.i64 (48 + Int.tmod n0 10)))]]))))])
         none)
        none)))))
   (cond (ltI (Int.tmod n0 10) 0)
    (cond (ltI (-10) n0)
     (cond (ltI n0 0)
      (some [(.str (mk [45] ++ ByteArray.mk (List.toArray (List.map (fun c => UInt8.ofNat (Int.toNat (cI 0 c))) [[L.int IntKind.u8 (wrapI IntKind.u8 (wrapI IntKind.i64 (48 + wrapI IntKind.i64 (0 - Int.tmod n0 10))))]]))))])
      (dupN 3
       (cond (gNum m (IntKind.wrap IntKind.i64 (Int.tdiv n0 10)))
        (cond (leI (↑(ByteArray.size (mk (it (IntKind.wrap IntKind.i64 (Int.tdiv n0 10)))) + ByteArray.size (ByteArray.mk (List.toArray (List.map (fun c => UInt8.ofNat (Int.toNat (cI 0 c))) [[L.int IntKind.u8 (wrapI IntKind.u8 (wrapI IntKind.i64 (48 + wrapI IntKind.i64 (0 - Int.tmod n0 10))))]])))) : Int) (IntKind.max IntKind.i64))
         (some [(.str (mk (it (IntKind.wrap IntKind.i64 (Int.tdiv n0 10))) ++ ByteArray.mk (List.toArray (List.map (fun c => UInt8.ofNat (Int.toNat (cI 0 c))) [[L.int IntKind.u8 (wrapI IntKind.u8 (wrapI IntKind.i64 (48 + wrapI IntKind.i64 (0 - Int.tmod n0 10))))]]))))])
         none)
        none)))
     (dupN 3
      (cond (gNum m (IntKind.wrap IntKind.i64 (Int.tdiv n0 10)))
       (cond (leI (↑(ByteArray.size (mk (it (IntKind.wrap IntKind.i64 (Int.tdiv n0 10)))) + ByteArray.size (ByteArray.mk (List.toArray (List.map (fun c => UInt8.ofNat (Int.toNat (cI 0 c))) [[L.int IntKind.u8 (wrapI IntKind.u8 (wrapI IntKind.i64 (48 + wrapI IntKind.i64 (0 - Int.tmod n0 10))))]])))) : Int) (IntKind.max IntKind.i64))
        (some [(.str (mk (it (IntKind.wrap IntKind.i64 (Int.tdiv n0 10))) ++ ByteArray.mk (List.toArray (List.map (fun c => UInt8.ofNat (Int.toNat (cI 0 c))) [[L.int IntKind.u8 (wrapI IntKind.u8 (wrapI IntKind.i64 (48 + wrapI IntKind.i64 (0 - Int.tmod n0 10))))]]))))])
        none)
       none)))
    (cond (ltI (-10) n0)
     (cond (ltI n0 0)
      (some [(.str (mk [45] ++ ByteArray.mk (List.toArray (List.map (fun c => UInt8.ofNat (Int.toNat (cI 0 c))) [[L.int IntKind.u8 (wrapI IntKind.u8 (wrapI IntKind.i64 (48 + Int.tmod n0 10)))]]))))])
      (dupN 3
       (cond (gNum m (IntKind.wrap IntKind.i64 (Int.tdiv n0 10)))
        (cond (leI (↑(ByteArray.size (mk (it (IntKind.wrap IntKind.i64 (Int.tdiv n0 10)))) + ByteArray.size (ByteArray.mk (List.toArray (List.map (fun c => UInt8.ofNat (Int.toNat (cI 0 c))) [[L.int IntKind.u8 (wrapI IntKind.u8 (wrapI IntKind.i64 (48 + Int.tmod n0 10)))]])))) : Int) (IntKind.max IntKind.i64))
         (some [(.str (mk (it (IntKind.wrap IntKind.i64 (Int.tdiv n0 10))) ++ ByteArray.mk (List.toArray (List.map (fun c => UInt8.ofNat (Int.toNat (cI 0 c))) [[L.int IntKind.u8 (wrapI IntKind.u8 (wrapI IntKind.i64 (48 + Int.tmod n0 10)))]]))))])
         none)
        none)))
     (dupN 3
      (cond (gNum m (IntKind.wrap IntKind.i64 (Int.tdiv n0 10)))
       (cond (leI (↑(ByteArray.size (mk (it (IntKind.wrap IntKind.i64 (Int.tdiv n0 10)))) + ByteArray.size (ByteArray.mk (List.toArray (List.map (fun c => UInt8.ofNat (Int.toNat (cI 0 c))) [[L.int IntKind.u8 (wrapI IntKind.u8 (wrapI IntKind.i64 (48 + Int.tmod n0 10)))]])))) : Int) (IntKind.max IntKind.i64))
        (some [(.str (mk (it (IntKind.wrap IntKind.i64 (Int.tdiv n0 10))) ++ ByteArray.mk (List.toArray (List.map (fun c => UInt8.ofNat (Int.toNat (cI 0 c))) [[L.int IntKind.u8 (wrapI IntKind.u8 (wrapI IntKind.i64 (48 + Int.tmod n0 10)))]]))))])
        none)
       none))))) := by kernel_rfl

/-! codesearch/codesearchref54.quote -/
noncomputable def rquote_q3 (s0 : ByteArray) (i4 : Int) (h0 : List (List L)) : Req := .point 57 [] (todoAt Tryz.prog 57 3) ⟨[(.lf (.str s0)), an, an, (.lf (.row 0)), (.lf (.int IntKind.i64 i4)), an, an, an, an, an, an, an, an, an, an, an, an, an, an, an, an, an, an, an, an, an, an, an, an, an, an, an, an, an, an, an, an, an, an, an, an, an, an, an, an], [(.row 5 h0 true)]⟩
theorem rquote_e (G : Req → R) (s0 : ByteArray) : runB (cfg []) G (.enter 57 [(.lf (.str (s0)))] []) =
  (G (rquote_q3 s0 0 ([[L.int IntKind.u8 34]]))) := by kernel_rfl
theorem rquote_p3 (G : Req → R) (s0 : ByteArray) (i4 : Int) (h0 : List (List L)) : runB (cfg []) G (rquote_q3 s0 i4 h0) =
  (cond (ltI i4 (↑(ByteArray.size s0) : Int))
   (cond (leI 0 i4 && ltI i4 (↑(ByteArray.size s0) : Int))
    (cond (byI s0 i4 == 34)
     (cond (leI 0 i4 && ltI i4 (↑(ByteArray.size s0) : Int))
      (cond (roomN (List.length h0 + 2) 1)
       (G (rquote_q3 s0 (wrapI IntKind.i64 (i4 + 1)) (h0 ++ [[L.int IntKind.u8 92], [L.int IntKind.u8 (byI s0 i4)]])))
       none)
      none)
     (cond (byI s0 i4 == 92)
      (cond (leI 0 i4 && ltI i4 (↑(ByteArray.size s0) : Int))
       (cond (roomN (List.length h0 + 2) 1)
        (G (rquote_q3 s0 (wrapI IntKind.i64 (i4 + 1)) (h0 ++ [[L.int IntKind.u8 92], [L.int IntKind.u8 (byI s0 i4)]])))
        none)
       none)
      (cond (byI s0 i4 == 10)
       (cond (roomN (List.length h0 + 2) 1)
        (G (rquote_q3 s0 (wrapI IntKind.i64 (i4 + 1)) (h0 ++ [[L.int IntKind.u8 92], [L.int IntKind.u8 110]])))
        none)
       (cond (byI s0 i4 == 9)
        (cond (roomN (List.length h0 + 2) 1)
         (G (rquote_q3 s0 (wrapI IntKind.i64 (i4 + 1)) (h0 ++ [[L.int IntKind.u8 92], [L.int IntKind.u8 116]])))
         none)
        (cond (leI 0 i4 && ltI i4 (↑(ByteArray.size s0) : Int))
         (cond (roomN (List.length h0 + 1) 1)
          (G (rquote_q3 s0 (wrapI IntKind.i64 (i4 + 1)) (h0 ++ [[L.int IntKind.u8 (byI s0 i4)]])))
          none)
         none)))))
    none)
   (cond (roomN (List.length h0 + 1) 1)
    (some [(.str (ByteArray.mk (List.toArray (List.map (fun c => UInt8.ofNat (Int.toNat (cI 0 c))) (h0 ++ [[L.int IntKind.u8 34]])))))])
    none)) := by kernel_rfl

/-! codesearch/codesearchref54.rules -/
noncomputable def rrules_q3 (l0 : List (List L)) (s3 : ByteArray) (i4 : Int) : Req := .point 58 [] (todoAt Tryz.prog 58 3) ⟨[(.lf (.lst 65 l0)), an, an, (.lf (.str s3)), (.lf (.int IntKind.i64 i4)), an, an, an, an, an, an, an, an, an, an, an, an, an, an, an, an, an, an, an, an, an, an, an, an, an, an, an, an, an, an, an, an, an, an, an, an, an, an, an, an], []⟩
theorem rrules_e (G : Req → R) (l0 : List (List L)) : runB (cfg []) G (.enter 58 [(.lf (.lst 65 l0))] []) =
  (G (rrules_q3 l0 (mk []) 0)) := by kernel_rfl
theorem rrules_p3 (G : Req → R) (l0 : List (List L)) (s3 : ByteArray) (i4 : Int) : runB (cfg []) G (rrules_q3 l0 s3 i4) =
  (cond (ltI i4 (↑(List.length l0) : Int))
   (cond (leI 0 i4 && ltI i4 (↑(List.length l0) : Int))
    (cond (leI 0 i4 && ltI i4 (↑(List.length l0) : Int))
     (cond (cO 0 (atL l0 i4))
      (cond (bl (cT 2 (atL l0 i4)) == bl (mk []))
       (cond (leI 0 i4 && ltI i4 (↑(List.length l0) : Int))
        (cond (leI 0 i4 && ltI i4 (↑(List.length l0) : Int))
         (cond (leI (↑(7 + ByteArray.size (cT 1 (atL l0 i4))) : Int) (IntKind.max IntKind.i64))
          (cond (leI (↑(ByteArray.size (mk [32, 97, 108, 108, 111, 119, 32] ++ cT 1 (atL l0 i4)) + 1) : Int) (IntKind.max IntKind.i64))
           (cond (leI (↑(ByteArray.size (mk [32, 97, 108, 108, 111, 119, 32] ++ cT 1 (atL l0 i4) ++ mk [32]) + 1) : Int) (IntKind.max IntKind.i64))
            (cond (leI (↑(ByteArray.size (mk [32, 97, 108, 108, 111, 119, 32] ++ cT 1 (atL l0 i4) ++ mk [32] ++ mk [45]) + 1) : Int) (IntKind.max IntKind.i64))
             (cond (leI (↑(ByteArray.size (mk [32, 97, 108, 108, 111, 119, 32] ++ cT 1 (atL l0 i4) ++ mk [32] ++ mk [45] ++ mk [32]) + ByteArray.size (cT 3 (atL l0 i4))) : Int) (IntKind.max IntKind.i64))
              (cond (leI (↑(ByteArray.size s3 + ByteArray.size (mk [32, 97, 108, 108, 111, 119, 32] ++ cT 1 (atL l0 i4) ++ mk [32] ++ mk [45] ++ mk [32] ++ cT 3 (atL l0 i4))) : Int) (IntKind.max IntKind.i64))
               (G (rrules_q3 l0 (s3 ++ (mk [32, 97, 108, 108, 111, 119, 32] ++ cT 1 (atL l0 i4) ++ mk [32] ++ mk [45] ++ mk [32] ++ cT 3 (atL l0 i4))) (wrapI IntKind.i64 (i4 + 1))))
               none)
              none)
             none)
            none)
           none)
          none)
         none)
        none)
       (cond (leI 0 i4 && ltI i4 (↑(List.length l0) : Int))
        (cond (leI 0 i4 && ltI i4 (↑(List.length l0) : Int))
         (cond (leI (↑(7 + ByteArray.size (cT 1 (atL l0 i4))) : Int) (IntKind.max IntKind.i64))
          (cond (leI (↑(ByteArray.size (mk [32, 97, 108, 108, 111, 119, 32] ++ cT 1 (atL l0 i4)) + 1) : Int) (IntKind.max IntKind.i64))
           (cond (leI (↑(ByteArray.size (mk [32, 97, 108, 108, 111, 119, 32] ++ cT 1 (atL l0 i4) ++ mk [32]) + ByteArray.size (cT 2 (atL l0 i4))) : Int) (IntKind.max IntKind.i64))
            (cond (leI (↑(ByteArray.size (mk [32, 97, 108, 108, 111, 119, 32] ++ cT 1 (atL l0 i4) ++ mk [32] ++ cT 2 (atL l0 i4)) + 1) : Int) (IntKind.max IntKind.i64))
             (cond (leI (↑(ByteArray.size (mk [32, 97, 108, 108, 111, 119, 32] ++ cT 1 (atL l0 i4) ++ mk [32] ++ cT 2 (atL l0 i4) ++ mk [32]) + ByteArray.size (cT 3 (atL l0 i4))) : Int) (IntKind.max IntKind.i64))
              (cond (leI (↑(ByteArray.size s3 + ByteArray.size (mk [32, 97, 108, 108, 111, 119, 32] ++ cT 1 (atL l0 i4) ++ mk [32] ++ cT 2 (atL l0 i4) ++ mk [32] ++ cT 3 (atL l0 i4))) : Int) (IntKind.max IntKind.i64))
               (G (rrules_q3 l0 (s3 ++ (mk [32, 97, 108, 108, 111, 119, 32] ++ cT 1 (atL l0 i4) ++ mk [32] ++ cT 2 (atL l0 i4) ++ mk [32] ++ cT 3 (atL l0 i4))) (wrapI IntKind.i64 (i4 + 1))))
               none)
              none)
             none)
            none)
           none)
          none)
         none)
        none))
      (cond (bl (cT 2 (atL l0 i4)) == bl (mk []))
       (cond (leI 0 i4 && ltI i4 (↑(List.length l0) : Int))
        (cond (leI 0 i4 && ltI i4 (↑(List.length l0) : Int))
         (cond (leI (↑(6 + ByteArray.size (cT 1 (atL l0 i4))) : Int) (IntKind.max IntKind.i64))
          (cond (leI (↑(ByteArray.size (mk [32, 100, 101, 110, 121, 32] ++ cT 1 (atL l0 i4)) + 1) : Int) (IntKind.max IntKind.i64))
           (cond (leI (↑(ByteArray.size (mk [32, 100, 101, 110, 121, 32] ++ cT 1 (atL l0 i4) ++ mk [32]) + 1) : Int) (IntKind.max IntKind.i64))
            (cond (leI (↑(ByteArray.size (mk [32, 100, 101, 110, 121, 32] ++ cT 1 (atL l0 i4) ++ mk [32] ++ mk [45]) + 1) : Int) (IntKind.max IntKind.i64))
             (cond (leI (↑(ByteArray.size (mk [32, 100, 101, 110, 121, 32] ++ cT 1 (atL l0 i4) ++ mk [32] ++ mk [45] ++ mk [32]) + ByteArray.size (cT 3 (atL l0 i4))) : Int) (IntKind.max IntKind.i64))
              (cond (leI (↑(ByteArray.size s3 + ByteArray.size (mk [32, 100, 101, 110, 121, 32] ++ cT 1 (atL l0 i4) ++ mk [32] ++ mk [45] ++ mk [32] ++ cT 3 (atL l0 i4))) : Int) (IntKind.max IntKind.i64))
               (G (rrules_q3 l0 (s3 ++ (mk [32, 100, 101, 110, 121, 32] ++ cT 1 (atL l0 i4) ++ mk [32] ++ mk [45] ++ mk [32] ++ cT 3 (atL l0 i4))) (wrapI IntKind.i64 (i4 + 1))))
               none)
              none)
             none)
            none)
           none)
          none)
         none)
        none)
       (cond (leI 0 i4 && ltI i4 (↑(List.length l0) : Int))
        (cond (leI 0 i4 && ltI i4 (↑(List.length l0) : Int))
         (cond (leI (↑(6 + ByteArray.size (cT 1 (atL l0 i4))) : Int) (IntKind.max IntKind.i64))
          (cond (leI (↑(ByteArray.size (mk [32, 100, 101, 110, 121, 32] ++ cT 1 (atL l0 i4)) + 1) : Int) (IntKind.max IntKind.i64))
           (cond (leI (↑(ByteArray.size (mk [32, 100, 101, 110, 121, 32] ++ cT 1 (atL l0 i4) ++ mk [32]) + ByteArray.size (cT 2 (atL l0 i4))) : Int) (IntKind.max IntKind.i64))
            (cond (leI (↑(ByteArray.size (mk [32, 100, 101, 110, 121, 32] ++ cT 1 (atL l0 i4) ++ mk [32] ++ cT 2 (atL l0 i4)) + 1) : Int) (IntKind.max IntKind.i64))
             (cond (leI (↑(ByteArray.size (mk [32, 100, 101, 110, 121, 32] ++ cT 1 (atL l0 i4) ++ mk [32] ++ cT 2 (atL l0 i4) ++ mk [32]) + ByteArray.size (cT 3 (atL l0 i4))) : Int) (IntKind.max IntKind.i64))
              (cond (leI (↑(ByteArray.size s3 + ByteArray.size (mk [32, 100, 101, 110, 121, 32] ++ cT 1 (atL l0 i4) ++ mk [32] ++ cT 2 (atL l0 i4) ++ mk [32] ++ cT 3 (atL l0 i4))) : Int) (IntKind.max IntKind.i64))
               (G (rrules_q3 l0 (s3 ++ (mk [32, 100, 101, 110, 121, 32] ++ cT 1 (atL l0 i4) ++ mk [32] ++ cT 2 (atL l0 i4) ++ mk [32] ++ cT 3 (atL l0 i4))) (wrapI IntKind.i64 (i4 + 1))))
               none)
              none)
             none)
            none)
           none)
          none)
         none)
        none)))
     none)
    none)
   (some [(.str (s3))])) := by kernel_rfl

/-! codesearch/codesearchref54.name -/
theorem rname_e (G : Req → R) (kind0 : Int) : runB (cfg []) G (.enter 35 [(.lf (.int IntKind.i64 (kind0)))] []) =
  (cond (ltI kind0 1)
   (some [(.str (mk []))])
   (cond (ltI (↑22 : Int) kind0)
    (some [(.str (mk []))])
    (cond (leI 0 (wrapI IntKind.i64 (kind0 - 1)) && ltI (wrapI IntKind.i64 (kind0 - 1)) (↑22 : Int))
     (some [(.str (cT 0 (atL [[L.str (mk [99, 111, 109, 109, 105, 116])], [L.str (mk [98, 114, 97, 110, 99, 104])], [L.str (mk [100, 114, 111, 112])], [L.str (mk [102, 111, 114, 119, 97, 114, 100])], [L.str (mk [105, 110, 103, 101, 115, 116])], [L.str (mk [109, 101, 114, 103, 101])], [L.str (mk [103, 114, 111, 117, 112])], [L.str (mk [114, 117, 108, 101, 115])], [L.str (mk [115, 101, 97, 114, 99, 104])], [L.str (mk [115, 97, 118, 101])], [L.str (mk [102, 111, 114, 103, 101, 116])], [L.str (mk [110, 111, 116, 105, 102, 121])], [L.str (mk [100, 101, 108, 105, 118, 101, 114])], [L.str (mk [116, 105, 99, 107])], [L.str (mk [114, 101, 110, 101, 119])], [L.str (mk [115, 121, 110, 99])], [L.str (mk [99, 114, 97, 115, 104])], [L.str (mk [115, 116, 97, 114, 116])], [L.str (mk [115, 108, 111, 119])], [L.str (mk [112, 114, 117, 110, 101])], [L.str (mk [114, 101, 119, 114, 105, 116, 101])], [L.str (mk [114, 101, 112, 111])]] (wrapI IntKind.i64 (kind0 - 1)))))])
     none))) := by kernel_rfl

end Go.Ab
namespace Go.Ab
open Go.Proofs

theorem decD_lo {u : Nat} (h : u < 10) : Lib.decDigits u = [UInt8.ofNat (48 + u)] := by rw [Lib.decDigits, dif_pos h]
theorem decD_hi {u : Nat} (h : ¬ u < 10) : Lib.decDigits u = Lib.decDigits (u / 10) ++ [UInt8.ofNat (48 + u % 10)] := by rw [Lib.decDigits, dif_neg h]
theorem decD_len : ∀ (k u : Nat), u < 10 ^ (k + 1) → (Lib.decDigits u).length ≤ k + 1
  | 0, u, h => by
    rw [decD_lo (by simpa using h)]
    exact Nat.le_refl _
  | k + 1, u, h => by
    by_cases h1 : u < 10
    · rw [decD_lo h1]; simp
    · rw [decD_hi h1, List.length_append, List.length_singleton]
      have := decD_len k (u / 10) (by rw [Nat.pow_succ] at h; omega)
      omega
theorem it_len {n : Int} (h : i64B n = true) : (it n).length ≤ 21 := by
  obtain ⟨h1, h2⟩ := i64B_of h
  have hp : (10 : Nat) ^ 20 = 100000000000000000000 := by decide
  unfold it Lib.itoa
  split
  · have := decD_len 19 n.natAbs (by rw [show 19 + 1 = 20 from rfl, hp]; omega)
    simp only [List.length_cons]; omega
  · have := decD_len 19 n.toNat (by rw [show 19 + 1 = 20 from rfl, hp]; omega)
    omega
theorem one_byte (k : Int) : ByteArray.mk (List.toArray (List.map (fun c => UInt8.ofNat (Int.toNat (cI 0 c))) [[L.int IntKind.u8 k]])) = mk [UInt8.ofNat k.toNat] := rfl
theorem dig_b {d : Nat} (h : d < 10) : wrapI IntKind.u8 (wrapI IntKind.i64 (48 + (d : Int))) = ((48 + d : Nat) : Int) := by
  rw [w64 (by omega) (by omega), w8 (by omega) (by omega)]; omega
theorem it_pos (n : Nat) : it (n : Int) = Lib.decDigits n := by
  unfold it Lib.itoa
  rw [if_neg (by omega), Int.toNat_natCast]
theorem it_neg (n : Nat) (h : 0 < n) : it (-(n : Int)) = 45 :: Lib.decDigits n := by
  unfold it Lib.itoa
  rw [if_pos (by omega)]
  congr 2
  omega
theorem imx : IntKind.max IntKind.i64 = 9223372036854775807 := rfl
theorem mk_app (a b : W) : mk a ++ mk b = mk (a ++ b) := by
  apply ByteArray.ext
  apply Array.toList_inj.1
  simp
theorem Number_holds : ∀ m : Nat, m ≤ 20 → Holds (k_Number m)
  | 0, _ => con_run (xs := []) hold0 fun aa hp r h => by
    split at h
    case h_2 => cases h
    rename_i n
    obtain ⟨g, rfl⟩ := xo h
    unfold gNum at g
    rw [Bool.and_eq_true, decide_eq_true_eq] at g
    obtain ⟨g1, g2⟩ := g
    exact absurd g2.1 (by omega)
  | m + 1, hm => con_run (xs := [k_Number m]) (hold1 (Number_holds m (by omega)) hold0) fun aa hp r h => by
    split at h
    case h_2 => cases h
    rename_i n
    obtain ⟨g, rfl⟩ := xo h
    unfold gNum at g
    rw [Bool.and_eq_true, decide_eq_true_eq] at g
    obtain ⟨g1, _, g2⟩ := g
    obtain ⟨b1, b2⟩ := i64B_of g1
    refine Runs.by (rnum_e · m n) ?_
    simp only [one_byte, dupN_eq, size_mk, mk_app]
    by_cases h0 : n < 0
    rotate_left
    · obtain ⟨u, rfl⟩ := Int.eq_ofNat_of_zero_le (Int.not_lt.1 h0)
      rw [it_pos]
      by_cases h1 : u < 10
      · rw [ev_le_t (by omega), ev_lt_t (by omega), dig_b h1, decD_lo h1]
        exact .ret
      · have e1 : Int.tmod (u : Int) 10 = ((u % 10 : Nat) : Int) := by rw [Int.tmod_eq_emod_of_nonneg (by omega)]; omega
        have e2 : Int.tdiv (u : Int) 10 = ((u / 10 : Nat) : Int) := by rw [Int.tdiv_eq_ediv_of_nonneg (by omega)]; omega
        have e3 : IntKind.wrap IntKind.i64 ((u / 10 : Nat) : Int) = ((u / 10 : Nat) : Int) := by rw [IntKind.wrap_i64]; omega
        rw [e1, e2, e3, it_pos]
        have hg : gNum m ((u / 10 : Nat) : Int) = true := by
          unfold gNum
          rw [Bool.and_eq_true, decide_eq_true_eq]
          refine ⟨i64B_t (by omega) (by omega), ?_⟩
          have hm0 : 0 < m := by
            rcases Nat.eq_zero_or_pos m with rfl | h
            · simp at g2; omega
            · exact h
          rw [Nat.pow_succ] at g2
          exact ⟨hm0, by omega⟩
        have hl := it_len (n := ((u / 10 : Nat) : Int)) (i64B_t (by omega) (by omega))
        rw [it_pos] at hl
        rw [ev_le_t (by omega), ev_lt_f (by omega), ev_lt_f (show (0 : Int) ≤ ((u % 10 : Nat) : Int) by omega), ev_lt_t (show (-10 : Int) < (u : Nat) by omega), ev_lt_f (show (0 : Int) ≤ (u : Nat) by omega), hg, dig_b (Nat.mod_lt _ (by decide)), imx]
        simp only [cond_true, cond_false]
        rw [ev_le_t (by simp only [List.length_cons, List.length_nil]; omega), decD_hi h1]
        exact .ret
    · obtain ⟨u, rfl⟩ : ∃ u : Nat, n = -(u : Int) := ⟨n.natAbs, by omega⟩
      have hu : 0 < u := by omega
      have e1 : Int.tmod (-(u : Int)) 10 = -((u % 10 : Nat) : Int) := by rw [Int.neg_tmod, Int.tmod_eq_emod_of_nonneg (by omega)]; omega
      have e2 : Int.tdiv (-(u : Int)) 10 = -((u / 10 : Nat) : Int) := by rw [Int.neg_tdiv, Int.tdiv_eq_ediv_of_nonneg (by omega)]; omega
      have e3 : IntKind.wrap IntKind.i64 (-((u / 10 : Nat) : Int)) = -((u / 10 : Nat) : Int) := by rw [IntKind.wrap_i64]; omega
      have e4 : wrapI IntKind.i64 (0 - -((u % 10 : Nat) : Int)) = ((u % 10 : Nat) : Int) := by rw [w64 (by omega) (by omega)]; omega
      rw [e1, e2, e3, e4, it_neg u hu]
      have hd := dig_b (Nat.mod_lt u (by decide : 0 < 10))
      rw [ev_le_f (by omega), hd]
      simp only [cond_false]
      -- the digit is the same either way
      have hb : ∀ (F1 F2 : (Req → R) → R) (T : List L), (0 < u % 10 → RunsF (cfg [k_Number m]) F1 T) → (u % 10 = 0 → RunsF (cfg [k_Number m]) F2 T) → RunsF (cfg [k_Number m]) (fun G => cond (ltI (-((u % 10 : Nat) : Int)) 0) (F1 G) (F2 G)) T := fun F1 F2 T q1 q2 => by
        rcases Nat.eq_zero_or_pos (u % 10) with h | h
        · rw [ev_lt_f (by omega)]; exact q2 h
        · rw [ev_lt_t (by omega)]; exact q1 h
      by_cases h1 : u < 10
      · rw [ev_lt_t (show (-10 : Int) < -(u : Int) by omega), ev_lt_t (show -(u : Int) < 0 by omega), decD_lo h1]
        have hm : u % 10 = u := Nat.mod_eq_of_lt h1
        refine hb _ _ _ (fun _ => ?_) (fun hz => absurd hz (by omega))
        rw [hm]
        exact .ret
      · have hg : gNum m (-((u / 10 : Nat) : Int)) = true := by
          unfold gNum
          rw [Bool.and_eq_true, decide_eq_true_eq]
          refine ⟨i64B_t (by omega) (by omega), ?_⟩
          have hm0 : 0 < m := by
            rcases Nat.eq_zero_or_pos m with rfl | h
            · simp at g2; omega
            · exact h
          rw [Nat.pow_succ] at g2
          exact ⟨hm0, by omega⟩
        have hl := it_len (n := -((u / 10 : Nat) : Int)) (i64B_t (by omega) (by omega))
        rw [it_neg (u / 10) (by omega)] at hl ⊢
        rw [ev_lt_f (show -(u : Int) ≤ (-10 : Int) by omega), hg, imx, decD_hi h1]
        simp only [cond_true, cond_false]
        refine hb _ _ _ (fun _ => ?_) (fun hz => ?_)
        · rw [ev_le_t (by simp only [List.length_cons, List.length_nil] at hl ⊢; omega)]
          exact .ret
        · have hz' : wrapI IntKind.u8 (wrapI IntKind.i64 (48 + -((u % 10 : Nat) : Int))) = ((48 + u % 10 : Nat) : Int) := by
            rw [hz]
            exact dig_b (by decide : 0 < 10)
          rw [hz', ev_le_t (by simp only [List.length_cons, List.length_nil] at hl ⊢; omega)]
          exact .ret
theorem Num_holds : Holds k_Num := fun aa hp r h => Number_holds 19 (by decide) aa hp r (by
  simp only [k_Num] at h
  simp only [k_Number]
  split at h
  case h_2 => cases h
  rename_i n
  obtain ⟨g, rfl⟩ := xo h
  have hb := i64B_of g
  have hp : (10 : Nat) ^ 19 = 10000000000000000000 := by decide
  have : gNum 19 n = true := by
    unfold gNum
    rw [g, Bool.true_and, decide_eq_true_eq, hp]
    omega
  rw [this])
end Go.Ab
namespace Go.Ab
open Go.Proofs
theorem eSs_a (l : List W) (w : W) : eSs l ++ [[L.str (mk w)]] = eSs (l ++ [w]) := eSs_app l [w]
theorem eSs_a5 (l : List W) (a b c d e : W) : eSs l ++ [[L.str (mk a)], [L.str (mk b)], [L.str (mk c)], [L.str (mk d)], [L.str (mk e)]] = eSs (l ++ [a, b, c, d, e]) := eSs_app l [a, b, c, d, e]
theorem cellAll {P : List L → Bool} {l : List (List L)} (h : l.all P = true) {i : Nat} (hi : i < l.length) : P (l.getD i []) = true := by
  refine List.all_eq_true.1 h _ ?_
  simp [List.getD, List.getElem?_eq_getElem hi]
theorem okPr_of {x : List L} (h : okPr x = true) : ((i64B (cI 0 x) = true ∧ i64B (cI 1 x) = true) ∧ i64B (cI 2 x) = true ∧ i64B (cI 3 x) = true) := by
  unfold okPr at h
  simpa only [Bool.and_eq_true] using h
theorem okRe_of {x : List L} (h : okRe x = true) : i64B (cI 0 x) = true ∧ i64B (cI 1 x) = true := by
  unfold okRe at h
  simpa only [Bool.and_eq_true] using h
theorem jn_done (ls : List W) (h : wl ls ≤ 900000) {_ : Req → R} : (cond (Nat.ble (List.length (eSs ls)) 1000000 && (Nat.ble (List.length (jn (dSs (eSs ls)))) 100000000 && true)) (some [L.str (mk (jn (dSs (eSs ls))))]) none : R) = some [.str (mk (jn ls))] := by
  have h1 := len_wl ls
  have h2 := jn_wl ls
  rw [dSs_e, eSs_len, nb (by omega), nb (by omega)]; rfl
theorem rp14 (ps : List (List L)) (hp : ps.all okPr = true) (hl : ps.length ≤ 1000) : ∀ (m i : Nat) (ls : List W), i + m = ps.length → wl ls ≤ 200000 + 100 * i → Runs (cfg [k_Itoa, k_Join]) (preply_q14 ps (ps.length : Int) (i : Nat) (eSs ls)) [.str (mk (jn (ls ++ (ps.drop i).flatMap wPro)))]
  | 0, i, ls, h, ha => by
    refine Runs.by (preply_p14 · _ _ _ _) ?_
    rw [drop_end (l := ps) (by omega)]
    have h1 := len_wl ls
    have h2 := jn_wl ls
    simp (disch := omega) only [ev_lt_f, cond_false, dSs_e, eSs_len, nb, Bool.and_self, cond_true, List.flatMap_nil, List.append_nil]
    exact .ret
  | m + 1, i, ls, h, ha => by
    have hi : i < ps.length := by omega
    have g := cellAll hp hi
    obtain ⟨⟨g0, g1⟩, g2, g3⟩ := okPr_of g
    have h1 := len_wl ls
    have ih := rp14 ps hp hl m (i + 1) (ls ++ wPro (ps.getD i [])) (by omega) (by
      have l0 := it_len g0
      have l1 := it_len g1
      have l2 := it_len g2
      have l3 := it_len g3
      unfold wPro
      simp only [wl_app, wl_cons, wl_nil, List.length_cons, List.length_nil]
      omega)
    refine Runs.by (preply_p14 · _ _ _ _) ?_
    rw [drop_at [] hi, List.flatMap_cons, ← List.append_assoc]
    have hc : atL ps (i : Int) = ps.getD i [] := rfl
    have r1 : roomN ((eSs ls).length + 5) 16 = true := by rw [eSs_len]; exact roomN_t (by omega) (by omega)
    simp (disch := omega) only [hc, g0, g1, g2, g3, ev_lt_t, ev_le_t, Bool.and_self, cond_true, r1, dupN_eq, both_self, w64, eSs_a5]
    exact .go ih
theorem rp9 (rs ps : List (List L)) (hr : rs.all okRe = true) (hlr : rs.length ≤ 1000) (hp : ps.all okPr = true) (hl : ps.length ≤ 1000) (a b tot : Int) (q : Bool) (q2 : List (List L)) : ∀ (m i : Nat) (ls : List W), i + m = rs.length → wl ls ≤ 1000 + 100 * i → Runs (cfg [k_Itoa, k_Join]) (preply_q9 rs (rs.length : Int) (i : Nat) a b q2 ps q tot (eSs ls)) [.str (mk (jn (ls ++ ((rs.drop i).map wRes ++ ps.flatMap wPro))))]
  | 0, i, ls, h, ha => by
    refine Runs.by (preply_p9 · _ _ _ _ _ _ _ _ _ _) ?_
    rw [drop_end (l := rs) (by omega)]
    have := rp14 ps hp hl ps.length 0 ls (by omega) (by omega)
    rw [List.drop_zero] at this
    simp (disch := omega) only [ev_lt_f, cond_false]
    exact .go this
  | m + 1, i, ls, h, ha => by
    have hi : i < rs.length := by omega
    have g := cellAll hr hi
    obtain ⟨g0, g1⟩ := okRe_of g
    have l0 := it_len g0
    have l1 := it_len g1
    have h1 := len_wl ls
    have ih := rp9 rs ps hr hlr hp hl a b tot q q2 m (i + 1) (ls ++ [wRes (rs.getD i [])]) (by omega) (by
      unfold wRes
      simp only [wl_app, wl_cons, wl_nil, List.length_cons, List.length_append]
      omega)
    refine Runs.by (preply_p9 · _ _ _ _ _ _ _ _ _ _) ?_
    rw [drop_at [] hi, List.map_cons, List.cons_append, show ∀ (a : W) (l : List W), ls ++ a :: l = ls ++ [a] ++ l from fun a l => by simp]
    have hc : atL rs (i : Int) = rs.getD i [] := rfl
    have r1 : roomN ((eSs ls).length + 1) 16 = true := by rw [eSs_len]; exact roomN_t (by omega) (by omega)
    have e : mk (it (cI 0 (rs.getD i []))) ++ mk [58] ++ mk (it (cI 1 (rs.getD i []))) = mk (wRes (rs.getD i [])) := by
      rw [mk_app, mk_app, List.append_assoc]; rfl
    have m1 : IntKind.max IntKind.i64 = 9223372036854775807 := rfl
    have q1 : leI (((mk (it (cI 0 (rs.getD i [])))).size + 1 : Nat) : Int) (IntKind.max IntKind.i64) = true := by rw [size_mk, m1]; exact ev_le_t (by omega)
    have q2 : leI (((mk (it (cI 0 (rs.getD i [])) ) ++ mk [58]).size + (mk (it (cI 1 (rs.getD i [])))).size : Nat) : Int) (IntKind.max IntKind.i64) = true := by
      rw [mk_app, size_mk, size_mk, m1, List.length_append, List.length_singleton]; exact ev_le_t (by omega)
    simp (disch := omega) only [hc, g0, g1, q1, q2, ev_lt_t, ev_le_t, Bool.and_self, cond_true, r1, dupN_eq, w64, e, eSs_a]
    exact .go ih
theorem RunsF.ret_ {C : Cfg} {a : R} {r : List L} (h : a = some r) : RunsF C (fun _ => a) r := ⟨0, h⟩
theorem rp_ok {n : Int} (g : i64B n = true) : (cond (i64B n) (cond (leI (↑(3 + ByteArray.size (mk (it n))) : Int) (IntKind.max IntKind.i64)) (some [(.str (mk [111, 107, 32] ++ mk (it n)))]) none) none : R) = some [.str (mk ([111, 107, 32] ++ it n))] := by
  have l0 := it_len g
  have m1 : IntKind.max IntKind.i64 = 9223372036854775807 := rfl
  rw [g, size_mk, m1, ev_le_t (by omega), mk_app]; rfl
theorem isN_sw (k : Int) (A B : R) : cond (k == 1) A (cond (k == 4) A (cond (k == 5) A (cond (k == 10) A (cond (k == 12) A (cond (k == 13) A (cond (k == 20) A (cond (k == 21) A B))))))) = cond (isN k) A B := by
  unfold isN
  cases k == 1 <;> cases k == 4 <;> cases k == 5 <;> cases k == 10 <;> cases k == 12 <;> cases k == 13 <;> cases k == 20 <;> cases k == 21 <;> rfl
theorem preply_runs (k a4 a5 a6 a7 err n tot : Int) (a1 a2 a3 a8 a9 : ByteArray) (us gs rs ws re pr : List (List L)) (c : Bool) (g : gRp err n re pr tot = true) : Runs (cfg [k_Itoa, k_Join]) (.enter 11 [.agg [.int .i64 k, .str a1, .str a2, .str a3, .int .i64 a4, .int .i64 a5, .int .i64 a6, .int .i64 a7, .str a8, .str a9, .lst 3 us, .lst 9 gs, .lst 65 rs, .lst 51 ws], .agg [.int .i64 err, .int .i64 n, .lst 54 re, .lst 56 pr, .bool c, .int .i64 tot]] []) [.str (mk (rpS k err n re pr c tot))] := by
  unfold gRp at g
  simp only [Bool.and_eq_true] at g
  obtain ⟨⟨g1, g2, g3⟩, ⟨g4, g5⟩, g6, g7⟩ := g
  have g6 := Nat.le_of_ble_eq_true g6
  have g7 := Nat.le_of_ble_eq_true g7
  have l0 := it_len g1
  have l3 := it_len g3
  have m1 : IntKind.max IntKind.i64 = 9223372036854775807 := rfl
  have q1 : leI (((6 + (mk (it err)).size : Nat) : Int)) (IntKind.max IntKind.i64) = true := by rw [size_mk, m1]; exact ev_le_t (by omega)
  have go : ∀ b : W, b.length ≤ 10 → Runs (cfg [k_Itoa, k_Join]) (preply_q9 re (re.length : Int) 0 err n re pr c tot [[L.str (mk [102, 111, 117, 110, 100])], [L.str (mk (it tot))], [L.str (mk b)]]) [.str (mk (jn ([[102, 111, 117, 110, 100], it tot, b] ++ (re.map wRes ++ pr.flatMap wPro))))] := fun b hb => by
    have := rp9 re pr g4 g6 g5 g7 err n tot c re re.length 0 [[102, 111, 117, 110, 100], it tot, b] (by omega) (by simp only [wl_cons, wl_nil, List.length_cons, List.length_nil]; omega)
    rw [List.drop_zero] at this
    exact this
  refine Runs.by (preply_e · _ _ _ _ _ _ _ _ _ _ _ _ _ _ _ _ _ _ _ _) ?_
  rw [g1, q1, g3]
  simp only [cond_true]
  unfold rpS
  cases he : err != 0
  · simp only [cond_false]
    cases hk : k == 9
    · simp only [cond_false]
      rw [rp_ok g2]
      cases hn : isN k
      · refine RunsF.ret_ ?_
        rw [isN_sw, hn]; rfl
      · refine RunsF.ret_ ?_
        rw [isN_sw, hn]; rfl
    · simp only [cond_true, rpW]
      cases c
      · exact .go (go [112, 97, 114, 116, 105, 97, 108] (by decide))
      · exact .go (go [99, 111, 109, 112, 108, 101, 116, 101] (by decide))
  · simp only [cond_true, mk_app]
    exact .ret
theorem preply_holds : Holds k_preply := con_run (xs := [k_Itoa, k_Join]) (hold1 Itoa_holds (hold1 Join_holds hold0)) fun aa hp r h => by
  unfold conRp at h
  split at h
  case h_2 => cases h
  obtain ⟨g, rfl⟩ := xo h
  exact preply_runs _ _ _ _ _ _ _ _ _ _ _ _ _ _ _ _ _ _ _ _ g
end Go.Ab
namespace Go.Ab
open Go.Proofs

/-! ### the lists of what is read -/
theorem lpW_len : ∀ (f : Nat) (x : Rs) (a : List Wr), (lpW f x a).1.length ≤ a.length + f
  | 0, _, _ => Nat.le_refl _
  | f + 1, x, a => by
    rw [lpW]
    cases mo x
    · exact Nat.le_add_right _ _
    · cases vW x == wPut
      · cases vW x == wDel
        · have := lpW_len f ((sW x).1, true) a
          show (lpW f ((sW x).1, true) a).1.length ≤ _
          omega
        · have := lpW_len f (sW (sW x)) (a ++ [(vW (sW x), [], true)])
          rw [List.length_append, List.length_singleton] at this
          show (lpW f (sW (sW x)) (a ++ [(vW (sW x), [], true)])).1.length ≤ _
          omega
      · have := lpW_len f (sT (sW (sW x))) (a ++ [(vW (sW x), vT (sW (sW x)), false)])
        rw [List.length_append, List.length_singleton] at this
        show (lpW f (sT (sW (sW x))) (a ++ [(vW (sW x), vT (sW (sW x)), false)])).1.length ≤ _
        omega
theorem lpG_len : ∀ (f : Nat) (x : Rs) (u : List Int) (g : List W), (lpG f x u g).1.1.length ≤ u.length + f ∧ (lpG f x u g).1.2.length ≤ g.length + f
  | 0, _, _, _ => ⟨Nat.le_refl _, Nat.le_refl _⟩
  | f + 1, x, u, g => by
    rw [lpG]
    cases mo x
    · exact ⟨Nat.le_add_right _ _, Nat.le_add_right _ _⟩
    · cases vW x == wUser && g.isEmpty
      · cases vW x == wGroup
        · have := lpG_len f ((sW x).1, true) u g
          show (lpG f ((sW x).1, true) u g).1.1.length ≤ _ ∧ (lpG f ((sW x).1, true) u g).1.2.length ≤ _
          omega
        · have := lpG_len f (sW (sW x)) u (g ++ [vW (sW x)])
          rw [List.length_append, List.length_singleton] at this
          show (lpG f (sW (sW x)) u (g ++ [vW (sW x)])).1.1.length ≤ _ ∧ (lpG f (sW (sW x)) u (g ++ [vW (sW x)])).1.2.length ≤ _
          omega
      · have := lpG_len f (sN (sW x)) (u ++ [vN (sW x)]) g
        rw [List.length_append, List.length_singleton] at this
        show (lpG f (sN (sW x)) (u ++ [vN (sW x)]) g).1.1.length ≤ _ ∧ (lpG f (sN (sW x)) (u ++ [vN (sW x)]) g).1.2.length ≤ _
        omega
theorem lpR_len : ∀ (f : Nat) (x : Rs) (a : List Ru), (lpR f x a).1.length ≤ a.length + f
  | 0, _, _ => Nat.le_refl _
  | f + 1, x, a => by
    rw [lpR]
    cases mo x
    · exact Nat.le_add_right _ _
    · have := lpR_len f ((sW (sW (sW (sW x)))).1, (sW (sW (sW (sW x)))).2 || (!(vW x == wAllow) && !(vW x == wDeny))) (a ++ [(vW x == wAllow, vW (sW x), rp (vW (sW (sW x))), vW (sW (sW (sW x))))])
      rw [List.length_append, List.length_singleton] at this
      show (lpR f ((sW (sW (sW (sW x)))).1, (sW (sW (sW (sW x)))).2 || (!(vW x == wAllow) && !(vW x == wDeny))) (a ++ [(vW x == wAllow, vW (sW x), rp (vW (sW (sW x))), vW (sW (sW (sW x))))])).1.length ≤ _
      omega
def LsLe (n : Nat) (e : Ev) : Prop := (e.users.length ≤ n ∧ e.groups.length ≤ n) ∧ e.rules.length ≤ n ∧ e.writes.length ≤ n
theorem lsLe_0 (n : Nat) (e : Ev) (h1 : e.users = []) (h2 : e.groups = []) (h3 : e.rules = []) (h4 : e.writes = []) : LsLe n e := by
  unfold LsLe
  rw [h1, h2, h3, h4]
  exact ⟨⟨Nat.zero_le _, Nat.zero_le _⟩, Nat.zero_le _, Nat.zero_le _⟩
theorem ls_c {n : Nat} {b : Bool} {r r' : Ev × Rs} (h1 : LsLe n r.1) (h2 : LsLe n r'.1) : LsLe n (cond b r r').1 := by
  cases b
  · exact h2
  · exact h1
theorem evG_ls (k : Int) (x : Rs) : LsLe (x.1.length + 1) (evG pOps k x).1 := by
  have z : ∀ e : Ev, e.users = [] → e.groups = [] → e.rules = [] → e.writes = [] → LsLe (x.1.length + 1) e := fun e => lsLe_0 _ e
  have c : LsLe (x.1.length + 1) (evCom pOps k x).1 := by
    have h := lpW_len (fu (sN (sW (sW x)))) (sN (sW (sW x))) []
    have h1 := sW_len x
    have h2 := sW_len (sW x)
    have h3 := sN_len (sW (sW x))
    refine ⟨⟨Nat.zero_le _, Nat.zero_le _⟩, Nat.zero_le _, ?_⟩
    show (lpW (fu (sN (sW (sW x)))) (sN (sW (sW x))) []).1.length ≤ _
    simp only [List.length_nil, fu] at h ⊢
    omega
  have g : LsLe (x.1.length + 1) (evGrp pOps k x).1 := by
    have h := lpG_len (fu (sW x)) (sW x) [] []
    have h1 := sW_len x
    refine ⟨⟨?_, ?_⟩, Nat.zero_le _, Nat.zero_le _⟩
    · show (lpG (fu (sW x)) (sW x) [] []).1.1.length ≤ _
      simp only [List.length_nil, fu] at h ⊢
      omega
    · show (lpG (fu (sW x)) (sW x) [] []).1.2.length ≤ _
      simp only [List.length_nil, fu] at h ⊢
      omega
  have r : LsLe (x.1.length + 1) (evRul pOps k x).1 := by
    have h := lpR_len (fu x) x []
    refine ⟨⟨Nat.zero_le _, Nat.zero_le _⟩, ?_, Nat.zero_le _⟩
    show (lpR (fu x) x []).1.length ≤ _
    simp only [List.length_nil, fu] at h ⊢
    omega
  exact ls_c c (ls_c (z _ rfl rfl rfl rfl) (ls_c (z _ rfl rfl rfl rfl) (ls_c (z _ rfl rfl rfl rfl) (ls_c (z _ rfl rfl rfl rfl) (ls_c (z _ rfl rfl rfl rfl) (ls_c g (ls_c r (ls_c (z _ rfl rfl rfl rfl) (ls_c (z _ rfl rfl rfl rfl) (ls_c (z _ rfl rfl rfl rfl) (ls_c (z _ rfl rfl rfl rfl) (ls_c (z _ rfl rfl rfl rfl) (ls_c (z _ rfl rfl rfl rfl) (ls_c (z _ rfl rfl rfl rfl) (ls_c (z _ rfl rfl rfl rfl) (ls_c (z _ rfl rfl rfl rfl) (ls_c (z _ rfl rfl rfl rfl) (ls_c (z _ rfl rfl rfl rfl) (ls_c (z _ rfl rfl rfl rfl) (ls_c (z _ rfl rfl rfl rfl) (z _ rfl rfl rfl rfl)))))))))))))))))))))
theorem evL_ls (s : W) : LsLe (s.length + 1) (evL pOps s).1 := by
  have z : ∀ e : Ev, e.users = [] → e.groups = [] → e.rules = [] → e.writes = [] → LsLe (s.length + 1) e := fun e => lsLe_0 _ e
  unfold evL
  cases ct (upB s) == 0
  · show LsLe _ (fin3 (evG pOps (ct (upB s)) (s.drop (upB s).length, false))).1
    unfold fin3
    have h := evG_ls (ct (upB s)) (s.drop (upB s).length, false)
    have hl : (s.drop (upB s).length).length ≤ s.length := by rw [List.length_drop]; omega
    have h' : LsLe (s.length + 1) (evG pOps (ct (upB s)) (s.drop (upB s).length, false)).1 := by
      obtain ⟨⟨h1, h2⟩, h3, h4⟩ := h
      dsimp only at h1 h2 h3 h4
      exact ⟨⟨by omega, by omega⟩, by omega, by omega⟩
    cases ((evG pOps (ct (upB s)) (s.drop (upB s).length, false)).2.2 || !(evG pOps (ct (upB s)) (s.drop (upB s).length, false)).2.1.isEmpty)
    · exact h'
    · exact z _ rfl rfl rfl rfl
  · exact z _ rfl rfl rfl rfl
theorem smE_of {n : Nat} {e : Ev} (hn : n ≤ 1000000) (h : LsLe n e) : smE e = true := by
  obtain ⟨⟨h1, h2⟩, h3, h4⟩ := h
  unfold smE
  rw [sm_t (by omega), sm_t (by omega), sm_t (by omega), sm_t (by omega)]; rfl
/-- Of what a text's events are. -/
theorem psR_all (f : W → Ev × Int) (P : Ev → Prop) : ∀ (ws : List W) (i : Nat) (acc : List Ev), (∀ w ∈ ws, (f w).2 = 0 → P (f w).1) → (∀ e ∈ acc, P e) → (∀ e ∈ (psR f ws i acc).l, P e) ∧ (psR f ws i acc).l.length ≤ acc.length + ws.length
  | [], i, acc, h, ha => ⟨ha, Nat.le_add_right _ _⟩
  | w :: ws, i, acc, h, ha => by
    have hw := fun w' hw' => h w' (List.mem_cons_of_mem _ hw')
    rw [psR_cons, List.length_cons]
    cases skp w
    · rw [cond_false]
      split
      · exact ⟨(fun e he => by cases he), Nat.zero_le _⟩
      · rename_i hx
        have hx : psE (f w) acc.length = 0 := Decidable.of_not_not hx
        have h2 : (f w).2 = 0 := by
          unfold psE at hx
          split at hx
          · cases hx
          · exact hx
        have := psR_all f P ws (i + 1) (acc ++ [(f w).1]) hw (fun e he => by
          rcases List.mem_append.1 he with he | he
          · exact ha e he
          · rw [List.mem_singleton.1 he]
            exact h w List.mem_cons_self h2)
        rw [List.length_append, List.length_singleton] at this
        exact ⟨this.1, by omega⟩
    · rw [cond_true]
      have := psR_all f P ws (i + 1) acc hw ha
      exact ⟨this.1, by omega⟩
theorem parP_all (s : W) (P : Ev → Prop) (h : ∀ w, w.length ≤ s.length → (evL pOps w).2 = 0 → P (evL pOps w).1) : (∀ e ∈ (parP s).l, P e) ∧ (parP s).l.length ≤ s.length + 1 := by
  unfold parP
  split
  · exact ⟨(fun e he => by cases he), Nat.zero_le _⟩
  · obtain ⟨h1, h2⟩ := spl_len 10 s
    have := psR_all (evL pOps) P (spl 10 s) 0 [] (fun w hw h0 => h w (h2 w hw) h0) (fun e he => by cases he)
    rw [List.length_nil] at this
    exact ⟨this.1, by omega⟩
theorem parP_sm (s : W) (hs : s.length ≤ 900000) : (parP s).l.all smE = true ∧ sm (parP s).l.length = true := by
  have := parP_all s (fun e => smE e = true) fun w hw _ => smE_of (by omega) (evL_ls w)
  exact ⟨List.all_eq_true.2 this.1, sm_t (by omega)⟩
/-! ### the laws -/
def exE (k : Int) (r : W) (n : Int) : Ev := { ev0 k with repo := r, n := n }
theorem al_1 : isEs [[L.int IntKind.i64 22, L.str (mk [99, 111, 114, 101]), L.str (mk []), L.str (mk []), L.int IntKind.i64 0, L.int IntKind.i64 0, L.int IntKind.i64 0, L.int IntKind.i64 0, L.str (mk []), L.str (mk []), L.lst 3 [], L.lst 9 [], L.lst 65 [], L.lst 51 []], [L.int IntKind.i64 14, L.str (mk []), L.str (mk []), L.str (mk []), L.int IntKind.i64 0, L.int IntKind.i64 3, L.int IntKind.i64 0, L.int IntKind.i64 0, L.str (mk []), L.str (mk []), L.lst 3 [], L.lst 9 [], L.lst 65 [], L.lst 51 []]] = true := isEs_e [exE 22 [99, 111, 114, 101] 0, exE 14 [] 3]
theorem al_2 : isLs [] [] [] [[L.str (mk [97]), L.str (mk [120, 10]), L.bool false], [L.str (mk [98]), L.str (mk []), L.bool true]] = true := isLs_e [] [] [] [([97], [120, 10], false), ([98], [], true)]
theorem alive_holds : Holds k_alive := con_run (xs := [k_pparse, k_SameList, k_pline, k_preply]) (hold1 pparse_holds (hold1 sameList_holds (hold1 pline_holds (hold1 preply_holds hold0)))) fun aa hp r h => by
  split at h
  case h_2 => cases h
  obtain ⟨_, rfl⟩ := xo h
  refine Runs.by (alive_e ·) ?_
  rw [isEs_e, al_1, al_2]
  exact .ret
theorem parses_runs (s : W) : Runs (cfg [k_alive, k_pparse, k_rparse, k_SameList]) (.enter 3 [.lf (.str (mk s))] []) [.bool true] := by
  refine Runs.by (lParses_e · _) ?_
  rw [size_mk, bl_mk]
  by_cases hl : 2000 < s.length
  · rw [ev_lt_t (by omega)]
    exact .ret
  · obtain ⟨q1, q2⟩ := parP_sm s (by omega)
    rw [← parse_eq, ev_lt_f (by omega), sm_t (show s.length ≤ 1000000 by omega), eEs_len, q2, isEs_e, dEs_e, q1]
    simp only [beq_self_eq_true, cond_true, cond_false, Bool.and_self]
    exact .ret' (by simp)
end Go.Ab
namespace Go.Ab
open Go.Proofs

theorem qB_cons (c : UInt8) (l : W) : qB (c :: l) = qE c ++ qB l := List.flatMap_cons ..
theorem qE34 {c : UInt8} (h : c.toNat = 34) : qE c = [92, c] := by
  have : c = 34 := UInt8.toNat_inj.1 h
  subst this; rfl
theorem qE92 {c : UInt8} (h : c.toNat = 92) : qE c = [92, c] := by
  have : c = 92 := UInt8.toNat_inj.1 h
  subst this; rfl
theorem qE10 {c : UInt8} (h : c.toNat = 10) : qE c = [92, 110] := by
  have : c = 10 := UInt8.toNat_inj.1 h
  subst this; rfl
theorem qE9 {c : UInt8} (h : c.toNat = 9) : qE c = [92, 116] := by
  have : c = 9 := UInt8.toNat_inj.1 h
  subst this; rfl
theorem qEo {c : UInt8} (h1 : c.toNat ≠ 34) (h2 : c.toNat ≠ 92) (h3 : c.toNat ≠ 10) (h4 : c.toNat ≠ 9) : qE c = [c] := by
  unfold qE
  rw [if_neg]
  unfold isE
  omega
theorem eB2 (a b : UInt8) : [[L.int IntKind.u8 a.toNat], [L.int IntKind.u8 b.toNat]] = eB [a, b] := rfl
theorem eB1 (a : UInt8) : [[L.int IntKind.u8 a.toNat]] = eB [a] := rfl
theorem rquote_loop (s : W) (hs : s.length ≤ 1000000) : ∀ (m i : Nat) (acc : W), i + m = s.length → acc.length ≤ 2 * i + 1 → Runs (cfg []) (rquote_q3 (mk s) (i : Nat) (eB acc)) [.str (mk (acc ++ (qB (s.drop i) ++ [34])))]
  | 0, i, acc, h, ha => by
    refine Runs.by (rquote_p3 · _ _ _) ?_
    rw [drop_end (l := s) (by omega)]
    simp (disch := omega) only [size_mk, ev_lt_f, cond_false, eB_len, roomN_t, cond_true]
    have e : eB acc ++ [[L.int IntKind.u8 34]] = eB (acc ++ [34]) := eB_app acc [34]
    have e2 : ByteArray.mk (List.toArray (List.map (fun c => UInt8.ofNat (Int.toNat (cI 0 c))) (eB (acc ++ [34])))) = mk (acc ++ [34]) := congrArg mk (dB_e _)
    rw [e, e2]
    exact .ret
  | m + 1, i, acc, h, ha => by
    have hi : i < s.length := by omega
    have ih := fun w : W => fun hw : w.length ≤ 2 => rquote_loop s hs m (i + 1) (acc ++ w) (by omega) (by simp; omega)
    refine Runs.by (rquote_p3 · _ _ _) ?_
    rw [drop_at 0 hi, qB_cons]
    generalize hc : s.getD i 0 = c at *
    have hb : byI (mk s) (i : Int) = (c.toNat : Nat) := by rw [byI_mk, hc]
    simp (disch := omega) only [size_mk, ev_lt_t, ev_le_t, Bool.and_self, cond_true, eB_len, roomN_t, hb, w64]
    have go2 : ∀ a b : UInt8, qE c = [a, b] → Runs (cfg []) (rquote_q3 (mk s) ((i : Int) + 1) (eB acc ++ [[L.int IntKind.u8 a.toNat], [L.int IntKind.u8 b.toNat]])) [.str (mk (acc ++ (qE c ++ qB (s.drop (i + 1)) ++ [34])))] := fun a b e => by
      have := ih [a, b] (Nat.le_refl _)
      rw [← eB_app] at this
      rw [e, List.append_assoc, ← List.append_assoc acc]
      exact this
    by_cases h1 : c.toNat = 34
    · rw [ev_eq_t (by omega)]
      exact .go (go2 92 c (qE34 h1))
    · rw [ev_eq_f (by omega)]
      simp only [cond_false]
      by_cases h2 : c.toNat = 92
      · rw [ev_eq_t (by omega)]
        exact .go (go2 92 c (qE92 h2))
      · rw [ev_eq_f (by omega)]
        simp only [cond_false]
        by_cases h3 : c.toNat = 10
        · rw [ev_eq_t (by omega)]
          exact .go (go2 92 110 (qE10 h3))
        · rw [ev_eq_f (by omega)]
          simp only [cond_false]
          by_cases h4 : c.toNat = 9
          · rw [ev_eq_t (by omega)]
            exact .go (go2 92 116 (qE9 h4))
          · rw [ev_eq_f (by omega)]
            simp only [cond_false]
            have := ih [c] (by simp)
            rw [← eB_app] at this
            rw [qEo h1 h2 h3 h4, List.append_assoc, ← List.append_assoc acc]
            exact .go this
theorem rquote_holds : Holds k_rquote := conT_of (ks := []) hold0 fun s g => by
  refine Runs.by (rquote_e · _) ?_
  have := rquote_loop s (sm_of g) s.length 0 [34] (Nat.zero_add _) (by decide)
  rw [List.drop_zero] at this
  exact .go this

theorem nm_all22 : (List.range 22).all (fun i => decide (cT 0 (atL (eSs nmL) (i : Nat)) = mk (nmL.getD i []))) = true := by decide +kernel
theorem name_holds : Holds k_name := con_run (xs := []) hold0 fun aa hp r h => by
  split at h
  case h_2 => cases h
  rename_i k
  obtain ⟨g, rfl⟩ := xo h
  obtain ⟨b1, b2⟩ := i64B_of g
  refine Runs.by (rname_e · k) ?_
  unfold nmOf
  by_cases h1 : k < 1
  · rw [ev_lt_t h1, show leI 1 k = false from ev_le_f h1]
    exact .ret
  · rw [ev_lt_f (show (1 : Int) ≤ k by omega), show leI 1 k = true from ev_le_t (by omega)]
    simp only [cond_false, Bool.true_and]
    by_cases h2 : 22 < k
    · rw [show ltI 22 k = true from ev_lt_t h2, show leI k 22 = false from ev_le_f h2]
      exact .ret
    · obtain ⟨i, rfl⟩ : ∃ i : Nat, k = (i : Int) + 1 := ⟨(k - 1).toNat, by omega⟩
      have hi : i < 22 := by omega
      rw [show ltI 22 ((i : Int) + 1) = false from ev_lt_f (by omega), show leI ((i : Int) + 1) 22 = true from ev_le_t (by omega), w64 (by omega) (by omega)]
      have e1 : (i : Int) + 1 - 1 = (i : Int) := by omega
      have e2 := of_decide_eq_true (List.all_eq_true.1 nm_all22 i (List.mem_range.2 hi))
      rw [e1, show leI 0 (i : Int) = true from ev_le_t (by omega), show ltI (i : Int) 22 = true from ev_lt_t (by omega), Int.toNat_natCast, cond_true, ← e2]
      exact .ret

theorem tw_cons (a : W) (l : List W) : tw (a :: l) = 32 :: (a ++ tw l) := by unfold tw; rw [List.flatMap_cons]; rfl
theorem tw_app (a b : List W) : tw (a ++ b) = tw a ++ tw b := List.flatMap_append ..
theorem tw_nil : tw [] = [] := rfl
theorem rrules_loop (rs : List Ru) (hl : rs.length ≤ 1000000) : ∀ (m i : Nat) (acc : W), i + m = rs.length → acc.length + (tw ((rs.drop i).flatMap wR)).length ≤ 1000000 →
    Runs (cfg []) (rrules_q3 (eRs rs) (mk acc) (i : Nat)) [.str (mk (acc ++ tw ((rs.drop i).flatMap wR)))]
  | 0, i, acc, h, ha => by
    refine Runs.by (rrules_p3 · _ _ _) ?_
    rw [drop_end (l := rs) (by omega)]
    simp (disch := omega) only [eRs_len, ev_lt_f, cond_false]
    exact .ret' (by simp [tw])
  | m + 1, i, acc, h, ha => by
    have hi : i < rs.length := by omega
    rw [drop_at (false, [], [], []) hi, fm_cons, tw_app, List.length_append] at ha
    have ih := rrules_loop rs hl m (i + 1) (acc ++ tw (wR (rs.getD i (false, [], [], [])))) (by omega) (by rw [List.length_append]; omega)
    rw [List.append_assoc] at ih
    refine Runs.by (rrules_p3 · _ _ _) ?_
    rw [drop_at (false, [], [], []) hi, fm_cons, tw_app]
    have hx : atL (eRs rs) (i : Int) = eR1 (rs.getD i (false, [], [], [])) := atL_map _ rs i _ hi
    generalize rs.getD i (false, [], [], []) = x at *
    obtain ⟨a, g, r, gl⟩ := x
    have e1 : cT 1 (eR1 (a, g, r, gl)) = mk g := rfl
    have e2 : cT 2 (eR1 (a, g, r, gl)) = mk r := rfl
    have e3 : cT 3 (eR1 (a, g, r, gl)) = mk gl := rfl
    have e0 : cO 0 (eR1 (a, g, r, gl)) = a := rfl
    have hw : wR (a, g, r, gl) = [cond a wAllow wDeny, g, rq r, gl] := rfl
    rw [hw, tw_cons, tw_cons, tw_cons, tw_cons, tw_nil, List.append_nil] at ha ih ⊢
    simp only [List.length_append, List.length_cons] at ha
    have hq : (rq r).length = r.length + (if r.isEmpty then 1 else 0) := by
      unfold rq
      cases r <;> rfl
    have ha' : acc.length + (6 + g.length + 1 + (rq r).length + 1 + gl.length) ≤ 1000000 := by
      cases a
      · have : (cond false wAllow wDeny).length = 4 := rfl
        omega
      · have : (cond true wAllow wDeny).length = 5 := rfl
        omega
    have hb5 : ∀ b : Bool, (cond b wAllow wDeny).length ≤ 5 := fun b => by cases b <;> decide
    have hb5' := hb5 a
    have ha'' : acc.length + (7 + g.length + 1 + (rq r).length + 1 + gl.length) ≤ 1000001 := by omega
    have hr1 : r.isEmpty = true → (rq r).length = 1 := fun h => by rw [hq, h]; simp at h; simp [h]
    have hr0 : r.isEmpty = false → (rq r).length = r.length := fun h => by rw [hq, h]; simp
    simp only [hx, e0, e1, e2, e3, beq_nil, eRs_len, size_mk, mk_app, imx, List.length_append, List.length_cons, List.length_nil]
    rw [ev_lt_t (show (i : Int) < (rs.length : Nat) by omega), ev_le_t (show (0 : Int) ≤ (i : Nat) by omega), w64 (by omega) (by omega)]
    simp only [Bool.and_self, cond_true]
    cases a
    · cases hr : r.isEmpty
      · have := hr0 hr
        simp (disch := omega) only [cond_true, ev_le_t]
        have e : rq r = r := by unfold rq; rw [hr]; rfl
        rw [e] at ih ⊢
        exact .go (by simpa using ih)
      · have := hr1 hr
        simp (disch := omega) only [cond_true, ev_le_t]
        have e : rq r = [45] := by unfold rq; rw [hr]; rfl
        rw [e] at ih ⊢
        exact .go (by simpa using ih)
    · cases hr : r.isEmpty
      · have := hr0 hr
        simp (disch := omega) only [cond_true, ev_le_t]
        have e : rq r = r := by unfold rq; rw [hr]; rfl
        rw [e] at ih ⊢
        exact .go (by simpa using ih)
      · have := hr1 hr
        simp (disch := omega) only [cond_true, ev_le_t]
        have e : rq r = [45] := by unfold rq; rw [hr]; rfl
        rw [e] at ih ⊢
        exact .go (by simpa using ih)
theorem tw_len (l : List W) : (tw l).length = wl l := tl_len l
theorem rrules_holds : Holds k_rrules := con_run (xs := []) hold0 fun aa hp r h => by
  split at h
  case h_2 => cases h
  rename_i rs
  obtain ⟨g, rfl⟩ := xo h
  rw [Bool.and_eq_true] at g
  obtain ⟨_, _, rs, _, h0, h1, rfl, h2⟩ := isLs_of g.1
  rw [dRs_e] at g ⊢
  have g2 := sm_of g.2
  have hl := fm_len wR 1 wR_wl rs
  rw [tw_len] at g2
  refine Runs.by (rrules_e · _) ?_
  have := rrules_loop rs (by omega) rs.length 0 [] (Nat.zero_add _) (by rw [List.drop_zero, tw_len]; simp; omega)
  rw [List.drop_zero] at this
  exact .go this
end Go.Ab
namespace Go.Ab
open Go.Proofs
/-- Words, each behind a blank. -/
def bw (l : List W) : W := l.flatMap fun w => 32 :: w
theorem bw_app (a b : List W) : bw (a ++ b) = bw a ++ bw b := List.flatMap_append ..
theorem bw_cons (a : W) (l : List W) : bw (a :: l) = 32 :: a ++ bw l := List.flatMap_cons ..
theorem bw_nil : bw [] = [] := rfl
theorem m64 : IntKind.max IntKind.i64 = 9223372036854775807 := rfl
noncomputable abbrev crr : Cfg := cfgR [k_Num]
theorem rr13 (r3 : List L) (hp : (cX 3 r3).all okPr = true) (hl : (cX 3 r3).length ≤ 1000) : ∀ (m i : Nat) (acc : W), i + m = (cX 3 r3).length → acc.length ≤ 200000 + 100 * i → Runs crr (rreply_q13 r3 (mk acc) (i : Nat)) [.str (mk (acc ++ bw (((cX 3 r3).drop i).flatMap wPro)))]
  | 0, i, acc, h, ha => by
    refine Runs.by (rreply_p13 · _ _ _) ?_
    rw [drop_end (l := cX 3 r3) (by omega)]
    simp (disch := omega) only [ev_lt_f, cond_false, List.flatMap_nil, bw_nil, List.append_nil]
    exact .ret
  | m + 1, i, acc, h, ha => by
    have hi : i < (cX 3 r3).length := by omega
    have g := cellAll hp hi
    obtain ⟨⟨g0, g1⟩, g2, g3⟩ := okPr_of g
    have l0 := it_len g0
    have l1 := it_len g1
    have l2 := it_len g2
    have l3 := it_len g3
    have ih := rr13 r3 hp hl m (i + 1) (acc ++ bw (wPro ((cX 3 r3).getD i []))) (by omega) (by
      unfold wPro
      simp only [bw_cons, bw_nil, List.length_cons, List.length_nil, List.length_append]
      omega)
    refine Runs.by (rreply_p13 · _ _ _) ?_
    rw [drop_at [] hi, List.flatMap_cons, bw_app, ← List.append_assoc]
    have hc : atL (cX 3 r3) (i : Int) = (cX 3 r3).getD i [] := rfl
    rw [hc]
    unfold wPro at ih ⊢
    generalize (cX 3 r3).getD i [] = x at *
    rw [g0, g1, g2, g3]
    generalize it (cI 0 x) = w0 at *
    generalize it (cI 1 x) = w1 at *
    generalize it (cI 2 x) = w2 at *
    generalize it (cI 3 x) = w3 at *
    simp (disch := omega) only [mk_app, size_mk, m64, List.length_append, List.length_cons, List.length_nil, ev_lt_t, ev_le_t, Bool.and_self, cond_true, w64]
    have e : acc ++ ([32, 115, 104, 97, 114, 100, 32] ++ w0 ++ [32] ++ w1 ++ [32] ++ w2 ++ [32] ++ w3) = acc ++ bw [[115, 104, 97, 114, 100], w0, w1, w2, w3] := by
      simp only [bw_cons, bw_nil, List.append_nil, List.cons_append, List.nil_append, List.append_assoc]
    rw [e]
    exact .go ih
theorem rr9 (r3 : List L) (hr : (cX 2 r3).all okRe = true) (hlr : (cX 2 r3).length ≤ 1000) (hp : (cX 3 r3).all okPr = true) (hl : (cX 3 r3).length ≤ 1000) : ∀ (m i : Nat) (acc : W), i + m = (cX 2 r3).length → acc.length ≤ 1000 + 100 * i → Runs crr (rreply_q9 r3 (mk acc) (i : Nat)) [.str (mk (acc ++ bw (((cX 2 r3).drop i).map wRes ++ (cX 3 r3).flatMap wPro)))]
  | 0, i, acc, h, ha => by
    refine Runs.by (rreply_p9 · _ _ _) ?_
    rw [drop_end (l := cX 2 r3) (by omega)]
    have := rr13 r3 hp hl (cX 3 r3).length 0 acc (by omega) (by omega)
    rw [List.drop_zero] at this
    simp (disch := omega) only [ev_lt_f, cond_false]
    exact .go this
  | m + 1, i, acc, h, ha => by
    have hi : i < (cX 2 r3).length := by omega
    have g := cellAll hr hi
    obtain ⟨g0, g1⟩ := okRe_of g
    have l0 := it_len g0
    have l1 := it_len g1
    have ih := rr9 r3 hr hlr hp hl m (i + 1) (acc ++ bw [wRes ((cX 2 r3).getD i [])]) (by omega) (by
      unfold wRes
      simp only [bw_cons, bw_nil, List.length_cons, List.length_nil, List.length_append]
      omega)
    refine Runs.by (rreply_p9 · _ _ _) ?_
    rw [drop_at [] hi, List.map_cons, List.cons_append, show ∀ (a : W) (l : List W), acc ++ bw (a :: l) = acc ++ bw [a] ++ bw l from fun a l => by simp only [bw_cons, bw_nil, List.append_nil, List.append_assoc]]
    have hc : atL (cX 2 r3) (i : Int) = (cX 2 r3).getD i [] := rfl
    rw [hc]
    unfold wRes at ih ⊢
    generalize (cX 2 r3).getD i [] = x at *
    rw [g0, g1]
    generalize it (cI 0 x) = w0 at *
    generalize it (cI 1 x) = w1 at *
    simp (disch := omega) only [mk_app, size_mk, m64, List.length_append, List.length_cons, List.length_nil, ev_lt_t, ev_le_t, Bool.and_self, cond_true, w64]
    have e : acc ++ ([32] ++ w0 ++ [58] ++ w1) = acc ++ bw [w0 ++ 58 :: w1] := by
      simp only [bw_cons, bw_nil, List.append_nil, List.cons_append, List.nil_append, List.append_assoc]
    rw [e]
    exact .go ih
theorem rreply_runs (k a4 a5 a6 a7 err n tot : Int) (a1 a2 a3 a8 a9 : ByteArray) (us gs rs ws re pr : List (List L)) (c : Bool) (g : gRp err n re pr tot = true) : Runs crr (.enter 12 [.agg [.int .i64 k, .str a1, .str a2, .str a3, .int .i64 a4, .int .i64 a5, .int .i64 a6, .int .i64 a7, .str a8, .str a9, .lst 3 us, .lst 9 gs, .lst 65 rs, .lst 51 ws], .agg [.int .i64 err, .int .i64 n, .lst 54 re, .lst 56 pr, .bool c, .int .i64 tot]] []) [.str (mk (rpS k err n re pr c tot))] := by
  unfold gRp at g
  simp only [Bool.and_eq_true] at g
  obtain ⟨⟨g1, g2, g3⟩, ⟨g4, g5⟩, g6, g7⟩ := g
  have g6 := Nat.le_of_ble_eq_true g6
  have g7 := Nat.le_of_ble_eq_true g7
  have l0 := it_len g1
  have l3 := it_len g3
  have go : ∀ b : W, b.length ≤ 10 → Runs crr (rreply_q9 [.int .i64 err, .int .i64 n, .lst 54 re, .lst 56 pr, .bool c, .int .i64 tot] (mk ([102, 111, 117, 110, 100, 32] ++ it tot ++ 32 :: b)) 0) [.str (mk (jn ([[102, 111, 117, 110, 100], it tot, b] ++ (re.map wRes ++ pr.flatMap wPro))))] := fun b hb => by
    have := rr9 [.int .i64 err, .int .i64 n, .lst 54 re, .lst 56 pr, .bool c, .int .i64 tot] g4 g6 g5 g7 re.length 0 ([102, 111, 117, 110, 100, 32] ++ it tot ++ 32 :: b) (by show 0 + _ = _; exact Nat.zero_add _) (by simp only [List.length_cons, List.length_nil, List.length_append]; omega)
    rw [List.drop_zero] at this
    have e : jn ([[102, 111, 117, 110, 100], it tot, b] ++ (re.map wRes ++ pr.flatMap wPro)) = [102, 111, 117, 110, 100, 32] ++ it tot ++ 32 :: b ++ bw (re.map wRes ++ pr.flatMap wPro) := by
      show [102, 111, 117, 110, 100] ++ bw (it tot :: b :: (re.map wRes ++ pr.flatMap wPro)) = _
      simp only [bw_cons, List.cons_append, List.nil_append, List.append_assoc]
    rw [e]
    exact this
  refine Runs.by (rreply_e · _ _ _ _ _ _ _ _ _ _ _ _ _ _ _ _ _ _ _ _) ?_
  rw [g1, g3]
  have q1 : leI (((6 + (mk (it err)).size : Nat) : Int)) (IntKind.max IntKind.i64) = true := by rw [size_mk, m64]; exact ev_le_t (by omega)
  have q2 : leI (((6 + (mk (it tot)).size : Nat) : Int)) (IntKind.max IntKind.i64) = true := by rw [size_mk, m64]; exact ev_le_t (by omega)
  have q3 : leI ((((mk [102, 111, 117, 110, 100, 32] ++ mk (it tot)).size + 8 : Nat) : Int)) (IntKind.max IntKind.i64) = true := by rw [mk_app, size_mk, m64]; simp only [List.length_append, List.length_cons, List.length_nil]; exact ev_le_t (by omega)
  have q4 : leI ((((mk [102, 111, 117, 110, 100, 32] ++ mk (it tot)).size + 9 : Nat) : Int)) (IntKind.max IntKind.i64) = true := by rw [mk_app, size_mk, m64]; simp only [List.length_append, List.length_cons, List.length_nil]; exact ev_le_t (by omega)
  rw [q1, q2, q3, q4]
  simp only [cond_true]
  unfold rpS
  cases he : err != 0
  · simp only [cond_false]
    cases hk : k == 9
    · simp only [cond_false]
      rw [rp_ok g2]
      cases hn : isN k
      · refine RunsF.ret_ ?_
        rw [isN_sw, hn]; rfl
      · refine RunsF.ret_ ?_
        rw [isN_sw, hn]; rfl
    · simp only [cond_true, rpW, mk_app]
      cases c
      · exact .go (go [112, 97, 114, 116, 105, 97, 108] (by decide))
      · exact .go (go [99, 111, 109, 112, 108, 101, 116, 101] (by decide))
  · simp only [cond_true, mk_app]
    exact .ret
theorem rreply_holds : Holds k_rreply := con_runR (xs := [k_Num]) (hold1 Num_holds hold0) fun aa hp r h => by
  unfold conRp at h
  split at h
  case h_2 => cases h
  obtain ⟨g, rfl⟩ := xo h
  exact rreply_runs _ _ _ _ _ _ _ _ _ _ _ _ _ _ _ _ _ _ _ _ g
end Go.Ab
