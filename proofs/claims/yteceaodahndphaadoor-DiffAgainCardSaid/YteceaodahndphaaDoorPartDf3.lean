/- Merging in place, sorting: the contracts. -/
import Derived.Test.YteceaodahndphaaDoorPartDf2
import Derived.Test.YteceaodahndphaaDoorPartDf1
namespace Go.Ab
open Go.Proofs

theorem halves_runs (z a s mid e b : Nat) (L1 L2 R : List Hk) (hL2 : L2 = srtP L1 a mid) (hR : R = srtP L2 mid b)
    (H1 : a < s → s < mid → gSy L1 (a : Int) (s : Int) (mid : Int) = true ∧ (mid : Int) - (a : Int) ≤ (z : Int)) (H1' : ¬ (a < s ∧ s < mid) → L1 = L2)
    (H2 : mid < e → e < b → gSy L2 (mid : Int) (e : Int) (b : Int) = true ∧ (b : Int) - (mid : Int) ≤ (z : Int)) (H2' : ¬ (mid < e ∧ e < b) → L2 = R) :
    RunsF (cfg [(k_symN z), k_rot, k_cmp]) (fun _ =>
      cond (ltI (a : Int) (s : Int))
        (cond (ltI (s : Int) (mid : Int))
          (cond (gSy L1 (a : Int) (s : Int) (mid : Int) && leI ((mid : Int) - (a : Int)) (z : Int))
            (cond (ltI (mid : Int) (e : Int))
              (cond (ltI (e : Int) (b : Int))
                (cond (gSy (srtP L1 a mid) (mid : Int) (e : Int) (b : Int) && leI ((b : Int) - (mid : Int)) (z : Int)) (some [.lst 46 (eHs (srtP (srtP L1 a mid) mid b))]) none)
                (some [.lst 46 (eHs (srtP L1 a mid))]))
              (some [.lst 46 (eHs (srtP L1 a mid))]))
            none)
          (cond (ltI (mid : Int) (e : Int))
            (cond (ltI (e : Int) (b : Int))
              (cond (gSy L1 (mid : Int) (e : Int) (b : Int) && leI ((b : Int) - (mid : Int)) (z : Int)) (some [.lst 46 (eHs (srtP L1 mid b))]) none)
              (some [.lst 46 (eHs L1)]))
            (some [.lst 46 (eHs L1)])))
        (cond (ltI (mid : Int) (e : Int))
          (cond (ltI (e : Int) (b : Int))
            (cond (gSy L1 (mid : Int) (e : Int) (b : Int) && leI ((b : Int) - (mid : Int)) (z : Int)) (some [.lst 46 (eHs (srtP L1 mid b))]) none)
            (some [.lst 46 (eHs L1)]))
          (some [.lst 46 (eHs L1)]))) [.lst 46 (eHs R)] := by
  have second : RunsF (cfg [(k_symN z), k_rot, k_cmp]) (fun G =>
        (cond (ltI (mid : Int) (e : Int))
          (cond (ltI (e : Int) (b : Int))
            (cond (gSy L2 (mid : Int) (e : Int) (b : Int) && leI ((b : Int) - (mid : Int)) (z : Int)) (some [.lst 46 (eHs (srtP L2 mid b))]) none)
            (some [.lst 46 (eHs L2)]))
          (some [.lst 46 (eHs L2)]))) [.lst 46 (eHs R)] := by
    by_cases h1 : mid < e
    · rw [ev_lt_t (a := (mid : Int)) (b := (e : Int)) (by omega)]
      by_cases h2 : e < b
      · obtain ⟨k1, k2⟩ := H2 h1 h2
        rw [ev_lt_t (a := (e : Int)) (b := (b : Int)) (by omega), k1, ev_le_t k2, hR]
        exact .ret
      · rw [ev_lt_f (a := (e : Int)) (b := (b : Int)) (by omega), H2' (fun h => h2 h.2)]
        exact .ret
    · rw [ev_lt_f (a := (mid : Int)) (b := (e : Int)) (by omega), H2' (fun h => h1 h.1)]
      exact .ret
  by_cases h1 : a < s
  · rw [ev_lt_t (a := (a : Int)) (b := (s : Int)) (by omega)]
    by_cases h2 : s < mid
    · obtain ⟨k1, k2⟩ := H1 h1 h2
      rw [ev_lt_t (a := (s : Int)) (b := (mid : Int)) (by omega), k1, ev_le_t k2, ← hL2]
      exact second
    · rw [ev_lt_f (a := (s : Int)) (b := (mid : Int)) (by omega), H1' (fun h => h2 h.2)]
      exact second
  · rw [ev_lt_f (a := (a : Int)) (b := (s : Int)) (by omega), H1' (fun h => h1 h.1)]
    exact second
theorem rot_id {l : List Hk} {s m e : Nat} (h1 : s ≤ m) (h2 : m ≤ e) (h3 : e ≤ l.length) (h : s = m ∨ m = e) : rotF l s m e = l := by
  have hs := split3 l h1 h2 h3
  unfold rotF
  rcases h with rfl | rfl
  · rw [slc_nil (Nat.le_refl _)] at hs ⊢
    exact hs.symm
  · rw [slc_nil (a := m) (b := m) (Nat.le_refl _)] at hs ⊢
    exact hs.symm
theorem sym_exit (z : Nat) {l : List Hk} (hl : l.length ≤ 1000000) (hg : gAll l) {a m b mid s e : Nat} (H : Halves l a m b mid s e) (ham : a < m) (hmb : m < b) (hz : b ≤ a + z + 1) (ha : a < mid) (hb : mid < b) (he : mid + m = s + e) (p : Int) :
    Runs (cfg [(k_symN z), k_rot, k_cmp]) (sym_q33 (a : Nat) (m : Nat) (b : Nat) (mid : Nat) ((mid + m : Nat) : Int) (s : Nat) (s : Nat) p (eHs l)) [.lst 46 (eHs (srtP l a b))] := by
  obtain ⟨f1, d1, d2, i1, i2, i3, i4, f2⟩ := H.facts
  obtain ⟨h1, h2, h3, h4, h5, h6, hp, hq, hd, _, _⟩ := H
  refine Runs.by (sym_p33 · _ _ _ _ _ _ _ _ _ _) ?_
  have ee : ((mid + m : Nat) : Int) - (s : Int) = (e : Int) := by omega
  rw [ev_lt_f (a := (s : Int)) (b := (s : Int)) (by omega), ee, w64 (n := (e : Int)) (by omega) (by omega)]
  simp only [dHs_e, isHs_e, Bool.true_and, Int.toNat_natCast]
  have la : (l.take a).length = a := by rw [List.length_take]; omega
  have l1 : (slc l a s).length = s - a := slc_len (by omega)
  have l2 : (slc l m e).length = e - m := slc_len (by omega)
  have l3 : (slc l s m).length = m - s := slc_len (by omega)
  have l4 : (slc l e b).length = b - e := slc_len h5
  have ln : (rotF l s m e).length = l.length := by
    rw [f1]
    simp only [List.length_append, la, l1, l2, l3, l4, List.length_drop]
    omega
  have gn : gAll (rotF l s m e) := fun h hm => hg h (by
    unfold rotF at hm
    rcases List.mem_append.1 hm with hm | hm
    · exact List.mem_of_mem_take hm
    rcases List.mem_append.1 hm with hm | hm
    · exact List.mem_of_mem_take (List.mem_of_mem_drop hm)
    rcases List.mem_append.1 hm with hm | hm
    · exact List.mem_of_mem_take (List.mem_of_mem_drop hm)
    · exact List.mem_of_mem_drop hm)
  have s1 : srtP (rotF l s m e) a mid = l.take a ++ (srtH (slc l a s ++ slc l m e) ++ ((slc l s m ++ slc l e b) ++ l.drop b)) :=
    srtP_app f1 la.symm (by simp only [List.length_append, la, l1, l2]; omega)
  have c1 : slc (rotF l s m e) a s = slc l a s := slc_app' (A := l.take a) (B := slc l m e ++ ((slc l s m ++ slc l e b) ++ l.drop b)) (by rw [f1]; simp only [List.append_assoc]) la.symm (by omega)
  have c2 : slc (rotF l s m e) s mid = slc l m e := slc_app' (A := l.take a ++ slc l a s) (B := (slc l s m ++ slc l e b) ++ l.drop b) (by rw [f1]; simp only [List.append_assoc]) (by simp only [List.length_append]; omega) (by simp only [List.length_append]; omega)
  have c3 : slc (rotF l s m e) a mid = slc l a s ++ slc l m e := slc_app' (A := l.take a) (B := (slc l s m ++ slc l e b) ++ l.drop b) f1 la.symm (by simp only [List.length_append]; omega)
  have ln2 : (srtP (rotF l s m e) a mid).length = l.length := by rw [srtP_len _ (by omega) (by omega), ln]
  have gn2 : gAll (srtP (rotF l s m e) a mid) := fun h hm => gn h (mem_srtP hm)
  have lsr : (srtH (slc l a s ++ slc l m e)).length = mid - a := by rw [srtH_len, List.length_append]; omega
  have c4 : slc (srtP (rotF l s m e) a mid) mid e = slc l s m := slc_app' (A := l.take a ++ srtH (slc l a s ++ slc l m e)) (B := slc l e b ++ l.drop b) (by rw [s1]; simp only [List.append_assoc]) (by simp only [List.length_append]; omega) (by simp only [List.length_append]; omega)
  have c5 : slc (srtP (rotF l s m e) a mid) e b = slc l e b := slc_app' (A := l.take a ++ (srtH (slc l a s ++ slc l m e) ++ slc l s m)) (B := l.drop b) (by rw [s1]; simp only [List.append_assoc]) (by simp only [List.length_append]; omega) (by simp only [List.length_append]; omega)
  have c6 : slc (srtP (rotF l s m e) a mid) mid b = slc l s m ++ slc l e b := slc_app' (A := l.take a ++ srtH (slc l a s ++ slc l m e)) (B := l.drop b) (by rw [s1]; simp only [List.append_assoc]) (by simp only [List.length_append]; omega) (by simp only [List.length_append]; omega)
  have s2 : srtP (srtP (rotF l s m e) a mid) mid b = (l.take a ++ srtH (slc l a s ++ slc l m e)) ++ (srtH (slc l s m ++ slc l e b) ++ l.drop b) :=
    srtP_app (by rw [s1]; simp only [List.append_assoc]) (by simp only [List.length_append]; omega) (by simp only [List.length_append]; omega)
  have fin : srtP l a b = srtP (srtP (rotF l s m e) a mid) mid b := by
    rw [s2]
    show l.take a ++ (srtH (slc l a b) ++ l.drop b) = _
    rw [f2]
    simp only [List.append_assoc]
  have T := halves_runs z a s mid e b (rotF l s m e) (srtP (rotF l s m e) a mid) (srtP l a b) rfl fin
    (fun q1 q2 => ⟨gSy_t (by omega) q1 q2 (by omega) gn (by rw [c1]; exact i1) (by rw [c2]; exact i2) (by rw [c3]; exact d1), by omega⟩)
    (fun hn => by
      rw [s1, f1]
      congr 2
      refine (srtH_id ?_).symm
      by_cases q : a < s
      · rw [slc_nil (a := m) (b := e) (by omega), List.append_nil]; exact i1
      · rw [slc_nil (a := a) (b := s) (by omega), List.nil_append]; exact i2)
    (fun q1 q2 => ⟨gSy_t (by omega) q1 q2 (by omega) gn2 (by rw [c4]; exact i3) (by rw [c5]; exact i4) (by rw [c6]; exact d2), by omega⟩)
    (fun hn => by
      rw [fin, s2, s1]
      simp only [List.append_assoc]
      congr 2
      rw [← List.append_assoc (slc l s m)]
      congr 1
      refine (srtH_id ?_).symm
      by_cases q : mid < e
      · rw [slc_nil (a := e) (b := b) (by omega), List.append_nil]; exact i3
      · rw [slc_nil (a := s) (b := m) (by omega), List.nil_append]; exact i4)
  by_cases q1 : s < m
  · rw [ev_lt_t (a := (s : Int)) (b := (m : Int)) (by omega)]
    by_cases q2 : m < e
    · have gr : gRo l (s : Int) (m : Int) (e : Int) = true := by
        unfold gRo
        rw [sm_t hl, ev_le_t (by omega), ev_lt_t (by omega), ev_lt_t (by omega), ev_le_t (by omega)]; rfl
      rw [ev_lt_t (a := (m : Int)) (b := (e : Int)) (by omega), gr]
      exact T
    · rw [rot_id h2 h3 (by omega) (.inr (by omega))] at T
      rw [ev_lt_f (a := (m : Int)) (b := (e : Int)) (by omega)]
      exact T
  · rw [rot_id h2 h3 (by omega) (.inl (by omega))] at T
    rw [ev_lt_f (a := (s : Int)) (b := (m : Int)) (by omega)]
    exact T
theorem slc_one {l : List Hk} {a : Nat} (h : a < l.length) : slc l a (a + 1) = [l.getD a default] := by
  rw [slc_cons (by omega) (by omega), slc_nil (Nat.le_refl _)]
theorem inc_part {l : List Hk} {a m i j : Nat} (h : IncL (slc l a m)) (h1 : a ≤ i) (h2 : j ≤ m) : IncL (slc l i j) := by
  by_cases hij : i ≤ j
  · rw [slc_pre h2 hij, slc_suf (a := a) (s := i) (m := m) h1]
    exact h.sublist ((List.take_sublist _ _).trans (List.drop_sublist _ _))
  · rw [slc_nil (by omega)]; exact List.Pairwise.nil
theorem take_slc {l : List Hk} {a b : Nat} (h : a ≤ b) : l.take b = l.take a ++ slc l a b := by
  have : l.take a = (l.take b).take a := by rw [List.take_take]; congr 1; omega
  rw [this]
  unfold slc
  rw [List.take_append_drop]
theorem drop_slc {l : List Hk} {a b : Nat} (h : a ≤ b) (hb : b ≤ l.length) : l.drop a = slc l a b ++ l.drop b := by
  conv => lhs; rw [← List.take_append_drop b l]
  rw [List.drop_append_of_le_length (by rw [List.length_take]; omega)]
  rfl
theorem symN_holds : ∀ z, Holds (k_symN z)
  | 0 => con_run (xs := []) hold0 fun aa hp r h => by
    split at h
    case h_2 => cases h
    rename_i a m b xs
    obtain ⟨g, rfl⟩ := xo h
    simp only [Bool.and_eq_true] at g
    obtain ⟨g1, g2, g3⟩ := g
    have g3 := leI_t g3
    obtain ⟨a, m, b, rfl, rfl, rfl, h1, h2, _⟩ := gSy_of g2
    omega
  | z + 1 => con_run (xs := [(k_symN z), k_rot, k_cmp]) (hold1 (symN_holds z) (hold1 rot_holds (hold1 cmp_holds hold0))) fun aa hp r h => by
    split at h
    case h_2 => cases h
    rename_i a m b xs
    obtain ⟨g, rfl⟩ := xo h
    simp only [Bool.and_eq_true] at g
    obtain ⟨g1, g2, g3⟩ := g
    have g3 := leI_t g3
    obtain ⟨l, rfl⟩ := isHs_of g1
    rw [dHs_e] at g2 ⊢
    obtain ⟨a, m, b, rfl, rfl, rfl, h1, h2, h3, hl, hg, p, q, d⟩ := gSy_of g2
    simp only [Int.toNat_natCast]
    refine Runs.by (sym_e · z _ _ _ _) ?_
    have ema : (m : Int) - (a : Int) = ((m - a : Nat) : Int) := by omega
    have ebm : (b : Int) - (m : Int) = ((b - m : Nat) : Int) := by omega
    have j1 := slc_join (l := l) (a := a) (b := m) (c := b) (by omega) (by omega) h3
    rw [ema, ebm, w64 (n := ((m - a : Nat) : Int)) (by omega) (by omega), w64 (n := ((b - m : Nat) : Int)) (by omega) (by omega)]
    by_cases c1 : m = a + 1
    · rw [ev_eq_t (a := ((m - a : Nat) : Int)) (by omega)]
      subst c1
      have one := slc_one (l := l) (a := a) (by omega)
      refine .go (bs1 z hl hg (by omega) h3 q _ (fun i i1 i2 lo hi => ?_) b (a + 1) b (by omega) (Nat.le_refl _) (by omega) (Nat.le_refl _) (fun c h4 h5 => by omega) (fun c h4 h5 => by omega))
      have sp : l = l.take a ++ l.getD a default :: (slc l (a + 1) i ++ l.drop i) := by
        have := split3 l (a := a) (m := a + 1) (b := i) (by omega) i1 (by omega)
        rw [one] at this
        exact this
      have S := shift_r z (l.drop i) (l.getD a default) (slc l (a + 1) i) (l.take a) (by rw [← sp]; exact hl)
      rw [← sp, slc_len (by omega), List.length_take, show min a l.length = a by omega, show a + (i - (a + 1)) + 1 = i by omega] at S
      have jq := slc_join (l := l) (a := a + 1) (b := i) (c := b) i1 i2 h3
      have dis : ∀ g ∈ slc l (a + 1) b, (l.getD a default).fr ≠ g.fr := by
        rw [← j1, one] at d
        exact fun g hg => List.rel_of_pairwise_cons d hg
      have R : srtP l a b = l.take a ++ ((slc l (a + 1) i ++ l.getD a default :: slc l i b) ++ l.drop b) := by
        refine srtP_eq d (inc_app (inc_part q (Nat.le_refl _) i2) (List.Pairwise.cons (fun g hg => ?_) (inc_part q i1 (Nat.le_refl _))) fun g hg g' hg' => ?_) fun g => ?_
        · have hne := dis g (by rw [← jq]; exact List.mem_append_right _ hg)
          obtain ⟨c, h4, h5, rfl⟩ := (mem_slc h3).1 hg
          have := hi c h4 h5
          show (l.getD a default).fr < _
          have : (l.getD a default).fr ≤ (l.getD c default).fr := this
          omega
        · obtain ⟨c, h4, h5, rfl⟩ := (mem_slc (by omega)).1 hg
          have lc : (l.getD c default).fr < (l.getD a default).fr := lo c h4 h5
          rcases List.mem_cons.1 hg' with rfl | hg'
          · exact lc
          · obtain ⟨c', h6, h7, rfl⟩ := (mem_slc h3).1 hg'
            have : (l.getD a default).fr ≤ (l.getD c' default).fr := hi c' h6 h7
            omega
        · rw [← j1, one, ← jq]
          simp only [List.mem_append, List.mem_cons, List.not_mem_nil, or_false]
          constructor
          · rintro (h | h | h) <;> simp [h]
          · rintro (h | h | h) <;> simp [h]
      rw [R]
      have e2 : l.take a ++ (slc l (a + 1) i ++ l.getD a default :: slc l i b ++ l.drop b) = l.take a ++ (slc l (a + 1) i ++ l.getD a default :: l.drop i) := by
        rw [drop_slc i2 h3]
        simp
      rw [e2]
      exact S
    rw [ev_eq_f (a := ((m - a : Nat) : Int)) (by omega)]
    by_cases c2 : b = m + 1
    · rw [ev_eq_t (a := ((b - m : Nat) : Int)) (by omega)]
      subst c2
      have one := slc_one (l := l) (a := m) (by omega)
      refine .go (bs2 z hl hg (by omega) p _ (fun i i1 i2 lo hi => ?_) m a m (by omega) (Nat.le_refl _) (by omega) (Nat.le_refl _) (fun c h4 h5 => by omega) (fun c h4 h5 => by omega))
      have sp : l = l.take i ++ (slc l i m ++ l.getD m default :: l.drop (m + 1)) := by
        have := split3 l (a := i) (m := m) (b := m + 1) i2 (by omega) (by omega)
        rw [one] at this
        exact this
      have S := shift_l z (l.drop (m + 1)) (l.getD m default) (l.take i) (m - i) (slc l i m) (slc_len (by omega)) (by rw [← sp]; exact hl)
      rw [← sp, slc_len (by omega), List.length_take, show min i l.length = i by omega, show i + (m - i) = m by omega] at S
      have jp := slc_join (l := l) (a := a) (b := i) (c := m) i1 i2 (by omega)
      have dis : ∀ g ∈ slc l a m, g.fr ≠ (l.getD m default).fr := by
        rw [← j1, one] at d
        exact fun g hg => (List.pairwise_append.1 d).2.2 g hg _ (by simp)
      have R : srtP l a (m + 1) = l.take a ++ ((slc l a i ++ l.getD m default :: slc l i m) ++ l.drop (m + 1)) := by
        refine srtP_eq d (inc_app (inc_part p (Nat.le_refl _) i2) (List.Pairwise.cons (fun g hg => ?_) (inc_part p i1 (Nat.le_refl _))) fun g hg g' hg' => ?_) fun g => ?_
        · obtain ⟨c, h4, h5, rfl⟩ := (mem_slc (by omega)).1 hg
          exact hi c h4 h5
        · have hne := dis g (by rw [← jp]; exact List.mem_append_left _ hg)
          obtain ⟨c, h4, h5, rfl⟩ := (mem_slc (by omega)).1 hg
          have lc : (l.getD c default).fr ≤ (l.getD m default).fr := lo c h4 h5
          rcases List.mem_cons.1 hg' with rfl | hg'
          · omega
          · obtain ⟨c', h6, h7, rfl⟩ := (mem_slc (by omega)).1 hg'
            have : (l.getD m default).fr < (l.getD c' default).fr := hi c' h6 h7
            omega
        · rw [← j1, one, ← jp]
          simp only [List.mem_append, List.mem_cons, List.not_mem_nil, or_false]
          constructor
          · rintro (h | h | h) <;> simp [h]
          · rintro ((h | h) | h) <;> simp [h]
      rw [R]
      have e2 : l.take a ++ (slc l a i ++ l.getD m default :: slc l i m ++ l.drop (m + 1)) = l.take i ++ l.getD m default :: (slc l i m ++ l.drop (m + 1)) := by
        rw [take_slc i1]
        simp
      rw [e2]
      exact S
    rw [ev_eq_f (a := ((b - m : Nat) : Int)) (by omega), half a b (by omega)]
    generalize hmid : (a + b) / 2 = mid
    have en : (mid : Int) + (m : Int) = ((mid + m : Nat) : Int) := by omega
    have ep : ((mid + m : Nat) : Int) - 1 = ((mid + m - 1 : Nat) : Int) := by omega
    rw [en, w64 (n := ((mid + m : Nat) : Int)) (by omega) (by omega), ep, w64 (n := ((mid + m - 1 : Nat) : Int)) (by omega) (by omega)]
    -- what the search yields
    have done : ∀ lo hi s : Nat, a ≤ lo → mid + m ≤ lo + b → hi ≤ m → hi ≤ mid → (lo = a ∨ mid + m = lo + b) → (hi = m ∨ hi = mid) → lo ≤ s → s ≤ hi →
        (∀ c, lo ≤ c → c < s → kf l c ≤ kf l (mid + m - 1 - c)) → (∀ c, s ≤ c → c < hi → kf l (mid + m - 1 - c) < kf l c) →
        Runs (cfg [(k_symN z), k_rot, k_cmp]) (sym_q33 (a : Nat) (m : Nat) (b : Nat) (mid : Nat) ((mid + m : Nat) : Int) (s : Nat) (s : Nat) ((mid + m - 1 : Nat) : Int) (eHs l)) [.lst 46 (eHs (srtP l a b))] := by
      intro lo hi s k1 k2 k3 k4 k5 k6 k7 k8 k9 k10
      refine sym_exit z hl hg (e := mid + m - s) ⟨by omega, by omega, by omega, by omega, h3, by omega, p, q, d, fun g hg' g' hg'' => ?_, fun g hg' g' hg'' => ?_⟩ h1 h2 (by omega) (by omega) (by omega) (by omega) _
      · obtain ⟨c, h4, h5, rfl⟩ := (mem_slc (by omega)).1 hg'
        obtain ⟨c', h6, h7, rfl⟩ := (mem_slc h3).1 hg''
        have hs : lo < s := by omega
        have x1 := k9 (s - 1) (by omega) (by omega)
        rw [show mid + m - 1 - (s - 1) = mid + m - s by omega] at x1
        have x2 : kf l c ≤ kf l (s - 1) := by
          by_cases e : c = s - 1
          · rw [e]; exact Int.le_refl _
          · exact Int.le_of_lt (inc_get (by omega) p h4 (by omega) (by omega))
        have x3 : kf l (mid + m - s) ≤ kf l c' := by
          by_cases e : c' = mid + m - s
          · rw [e]; exact Int.le_refl _
          · exact Int.le_of_lt (inc_get h3 q (by omega) (by omega) h7)
        have hne : kf l c ≠ kf l c' := by
          rw [← j1] at d
          exact (List.pairwise_append.1 d).2.2 _ ((mem_slc (by omega)).2 ⟨c, h4, by omega, rfl⟩) _ ((mem_slc h3).2 ⟨c', by omega, h7, rfl⟩)
        show kf l c < kf l c'
        omega
      · obtain ⟨c, h4, h5, rfl⟩ := (mem_slc (by omega)).1 hg'
        obtain ⟨c', h6, h7, rfl⟩ := (mem_slc (by omega)).1 hg''
        have hs : s < hi := by omega
        have x1 := k10 s (Nat.le_refl _) hs
        have x2 : kf l c ≤ kf l (mid + m - 1 - s) := by
          by_cases e : c = mid + m - 1 - s
          · rw [e]; exact Int.le_refl _
          · exact Int.le_of_lt (inc_get h3 q h4 (by omega) (by omega))
        have x3 : kf l s ≤ kf l c' := by
          by_cases e : c' = s
          · rw [e]; exact Int.le_refl _
          · exact Int.le_of_lt (inc_get (by omega) p (by omega) (by omega) h7)
        show kf l c < kf l c'
        omega
    by_cases c3 : mid < m
    · rw [ev_lt_t (a := (mid : Int)) (b := (m : Int)) (by omega)]
      have es : ((mid + m : Nat) : Int) - (b : Int) = ((mid + m - b : Nat) : Int) := by omega
      rw [es, w64 (n := ((mid + m - b : Nat) : Int)) (by omega) (by omega)]
      exact .go (bs3 z hl hg (lo := mid + m - b) (hi := mid) (by omega) (by omega) (by omega) (Nat.le_refl _) (by omega) (by omega) h3 p q _ (fun s k7 k8 k9 k10 => done (mid + m - b) mid s (by omega) (by omega) (by omega) (Nat.le_refl _) (.inr (by omega)) (.inr rfl) k7 k8 k9 k10)
        mid (mid + m - b) mid (by omega) (Nat.le_refl _) (by omega) (Nat.le_refl _) (fun c h4 h5 => by omega) (fun c h4 h5 => by omega))
    · rw [ev_lt_f (a := (mid : Int)) (b := (m : Int)) (by omega)]
      exact .go (bs3 z hl hg (lo := a) (hi := m) (Nat.le_refl _) (by omega) (Nat.le_refl _) (by omega) (by omega) (by omega) h3 p q _ (fun s k7 k8 k9 k10 => done a m s (Nat.le_refl _) (by omega) (Nat.le_refl _) (by omega) (.inl rfl) (.inl rfl) k7 k8 k9 k10)
        m a m (by omega) (Nat.le_refl _) (by omega) (Nat.le_refl _) (fun c h4 h5 => by omega) (fun c h4 h5 => by omega))
end Go.Ab
namespace Go.Ab
open Go.Proofs

theorem sym_holds : Holds k_sym := fun aa hp r h => symN_holds 1000000 aa hp r (by
  revert h
  simp only [k_sym, k_symN]
  intro h
  split at h
  case h_2 => cases h
  rename_i a m b xs
  obtain ⟨g, rfl⟩ := xo h
  have g' := g
  rw [Bool.and_eq_true] at g'
  obtain ⟨l, rfl⟩ := isHs_of g'.1
  have g2 := g'.2
  rw [dHs_e] at g2
  obtain ⟨a, m, b, rfl, rfl, rfl, h1, h2, h3, h4, _⟩ := gSy_of g2
  simp only [dHs_e, isHs_e, g2, Bool.true_and]
  rw [ev_le_t (by omega)])

theorem insH_perm (h : Hk) : ∀ (l : List Hk), (insH h l).Perm (h :: l)
  | [] => List.Perm.refl _
  | x :: l => by
    rw [insH]
    split
    · exact List.Perm.refl _
    · exact ((insH_perm h l).cons x).trans (List.Perm.swap h x l)
theorem fold_perm : ∀ (l acc : List Hk), (l.foldl (fun acc h => insH h acc) acc).Perm (acc ++ l)
  | [], acc => by simp
  | x :: l, acc => by
    rw [List.foldl_cons]
    refine (fold_perm l (insH x acc)).trans ?_
    have := (insH_perm x acc).append_right l
    exact this.trans (by
      rw [List.cons_append]
      exact List.perm_middle.symm)
theorem srtH_perm (l : List Hk) : (srtH l).Perm l := by
  have := fold_perm l []
  rwa [List.nil_append] at this
theorem srtP_perm (l : List Hk) {a b : Nat} (h : a ≤ b) (_ : b ≤ l.length) : (srtP l a b).Perm l := by
  have hs : l = l.take a ++ (slc l a b ++ l.drop b) := by
    have := take_slc (l := l) h
    rw [← List.append_assoc, ← this, List.take_append_drop]
  conv => rhs; rw [hs]
  exact ((srtH_perm _).append_right _).append_left _
theorem dif_perm {l m : List Hk} (h : l.Perm m) (hd : DifL m) : DifL l := (List.Perm.pairwise_iff (fun h => Ne.symm h) h).2 hd
theorem srtP_mid {l : List Hk} {a b : Nat} (h : a ≤ b) (hb : b ≤ l.length) : slc (srtP l a b) a b = srtH (slc l a b) :=
  slc_app' (A := l.take a) (B := l.drop b) rfl (by rw [List.length_take]; omega) (by rw [srtH_len, slc_len hb, List.length_take]; omega)
theorem srtP_lo {l : List Hk} {a b i j : Nat} (h : j ≤ a) (ha : a ≤ l.length) : slc (srtP l a b) i j = slc l i j := by
  have : (srtP l a b).take j = l.take j := by
    unfold srtP
    rw [List.take_append_of_le_length (by rw [List.length_take]; omega), List.take_take]
    congr 1; omega
  unfold slc
  rw [this]
theorem srtP_hi {l : List Hk} {a b i j : Nat} (hab : a ≤ b) (h : b ≤ i) (hb : b ≤ l.length) : slc (srtP l a b) i j = slc l i j := by
  have : (srtP l a b).drop i = l.drop i := by
    have e : (srtP l a b).drop b = l.drop b := by
      unfold srtP
      rw [← List.append_assoc, List.drop_append_of_le_length (by rw [List.length_append, List.length_take, srtH_len, List.length_drop, List.length_take]; omega), List.drop_eq_nil_of_le (by rw [List.length_append, List.length_take, srtH_len, List.length_drop, List.length_take]; omega), List.nil_append]
    rw [show i = b + (i - b) by omega, ← List.drop_drop, ← List.drop_drop, e]
  unfold slc
  rw [List.drop_take, List.drop_take, this]
/-- Blocks of c from i to j are in order. -/
def BlkF (c n : Nat) (l : List Hk) (i j : Nat) : Prop := ∀ k, i ≤ k * c → k * c < j → IncL (slc l (k * c) (min (k * c + c) n))
theorem mul_step {k t c : Nat} (h : k * c < t * c) : k * c + c ≤ t * c := by
  have h1 : k < t := Nat.lt_of_mul_lt_mul_right h
  have := Nat.mul_le_mul_right c (show k + 1 ≤ t from h1)
  rw [Nat.succ_mul] at this
  exact this
theorem mul_same {k t c : Nat} (h1 : t * c ≤ k * c) (h2 : k * c < t * c + c) : k * c = t * c := by
  rcases Nat.lt_or_ge (t * c) (k * c) with h | h
  · have := mul_step h; omega
  · omega
section
variable {l0 : List Hk} (h0 : l0.length ≤ 1000) (hd0 : DifL l0) (hg0 : gAll l0)
include h0 hd0 hg0
omit h0 in
theorem perm_g {l : List Hk} (h : l.Perm l0) : l.length = l0.length ∧ DifL l ∧ gAll l := ⟨h.length_eq, dif_perm h hd0, fun g hg => hg0 g (h.mem_iff.1 hg)⟩
theorem stable_in {bs : Nat} (hbs : 0 < bs) (hbn : bs ≤ 1000) (T : List L) (hT : ∀ l : List Hk, l.Perm l0 → BlkF (2 * bs) l0.length l 0 l0.length → Runs (cfg [k_isort, k_sym]) (stable_q7 (l0.length : Nat) ((2 * bs : Nat) : Int) (eHs l)) T) :
    ∀ (f t : Nat) (l : List Hk), l0.length - t * (2 * bs) ≤ f → t * (2 * bs) ≤ l0.length → l.Perm l0 → BlkF (2 * bs) l0.length l 0 (t * (2 * bs)) → BlkF bs l0.length l (t * (2 * bs)) l0.length →
    Runs (cfg [k_isort, k_sym]) (stable_q9 (l0.length : Nat) (bs : Nat) ((t * (2 * bs) : Nat) : Int) ((t * (2 * bs) + 2 * bs : Nat) : Int) (eHs l)) T
  | f, t, l, hf, ht, hp, hq, hr => by
    obtain ⟨hl, hd, hg⟩ := perm_g hd0 hg0 hp
    have e2t : (2 * t) * bs = t * (2 * bs) := by rw [Nat.mul_comm 2 t, Nat.mul_assoc]
    have e2t1 : (2 * t + 1) * bs = t * (2 * bs) + bs := by rw [Nat.succ_mul, e2t]
    have r1 := hr (2 * t)
    have r2 := hr (2 * t + 1)
    rw [e2t] at r1
    rw [e2t1] at r2
    have et1 : (t + 1) * (2 * bs) = t * (2 * bs) + 2 * bs := Nat.succ_mul _ _
    generalize hA : t * (2 * bs) = A at *
    refine Runs.by (stable_p9 · _ _ _ _ _) ?_
    have em : (A : Int) + (bs : Int) = ((A + bs : Nat) : Int) := by omega
    have e2 : 2 * (bs : Int) = ((2 * bs : Nat) : Int) := by omega
    rw [em, e2, w64 (n := ((A + bs : Nat) : Int)) (by omega) (by omega), w64 (n := ((2 * bs : Nat) : Int)) (by omega) (by omega)]
    simp only [isHs_e, dHs_e, Bool.true_and, Int.toNat_natCast]
    by_cases hb : A + 2 * bs ≤ l0.length
    · rw [ev_le_t (a := ((A + 2 * bs : Nat) : Int)) (by omega)]
      have i1 := r1 (Nat.le_refl _) (by omega)
      have i2 := r2 (by omega) (by omega)
      rw [Nat.min_eq_left (by omega)] at i1 i2
      rw [show A + bs + bs = A + 2 * bs by omega] at i2
      rw [gSy_t (l := l) (a := A) (m := A + bs) (b := A + 2 * bs) (by omega) (by omega) (by omega) (by omega) hg i1 i2 (hd.sublist ((List.drop_sublist _ _).trans (List.take_sublist _ _)))]
      have e3 : ((A + 2 * bs : Nat) : Int) + ((2 * bs : Nat) : Int) = ((A + 2 * bs + 2 * bs : Nat) : Int) := by omega
      rw [e3, w64 (by omega) (by omega)]
      obtain ⟨f, rfl⟩ : ∃ k, f = k + 1 := ⟨f - 1, by omega⟩
      have hp' := (srtP_perm l (a := A) (b := A + 2 * bs) (by omega) (by omega)).trans hp
      have ih := stable_in hbs hbn T hT f (t + 1) (srtP l A (A + 2 * bs)) (by omega) (by omega) hp' (fun k k1 k2 => by
        rw [et1] at k2
        rcases Nat.lt_or_ge (k * (2 * bs)) A with h | h
        · have h' := mul_step (k := k) (t := t) (c := 2 * bs) (by omega)
          rw [srtP_lo (by omega) (by omega)]
          exact hq k k1 h
        · have h' := mul_same (k := k) (t := t) (c := 2 * bs) (by omega) (by omega)
          rw [h', hA, Nat.min_eq_left (by omega), srtP_mid (by omega) (by omega)]
          exact srtH_inc (hd.sublist ((List.drop_sublist _ _).trans (List.take_sublist _ _)))) (fun k k1 k2 => by
        rw [et1] at k1
        rw [srtP_hi (by omega) k1 (by omega)]
        exact hr k (by omega) k2)
      rw [et1] at ih
      exact .go ih
    · rw [ev_le_f (a := ((A + 2 * bs : Nat) : Int)) (by omega)]
      have e4 : (bs : Int) * 2 = ((2 * bs : Nat) : Int) := by omega
      rw [e4, w64 (n := ((2 * bs : Nat) : Int)) (by omega) (by omega)]
      by_cases hm : A + bs < l0.length
      · rw [ev_lt_t (a := ((A + bs : Nat) : Int)) (by omega)]
        have i1 := r1 (Nat.le_refl _) (by omega)
        have i2 := r2 (by omega) (by omega)
        rw [Nat.min_eq_left (by omega)] at i1
        rw [Nat.min_eq_right (by omega)] at i2
        rw [gSy_t (l := l) (a := A) (m := A + bs) (b := l0.length) (by omega) (by omega) (by omega) (by omega) hg i1 i2 (hd.sublist ((List.drop_sublist _ _).trans (List.take_sublist _ _)))]
        refine .go (hT _ ((srtP_perm l (a := A) (b := l0.length) (by omega) (by omega)).trans hp) fun k k1 k2 => ?_)
        rcases Nat.lt_or_ge (k * (2 * bs)) A with h | h
        · have h' := mul_step (k := k) (t := t) (c := 2 * bs) (by omega)
          rw [srtP_lo (by omega) (by omega)]
          exact hq k k1 h
        · have h' := mul_same (k := k) (t := t) (c := 2 * bs) (by omega) (by omega)
          rw [h', hA, Nat.min_eq_right (by omega), srtP_mid (by omega) (by omega)]
          exact srtH_inc (hd.sublist ((List.drop_sublist _ _).trans (List.take_sublist _ _)))
      · rw [ev_lt_f (a := ((A + bs : Nat) : Int)) (by omega)]
        refine .go (hT _ hp fun k k1 k2 => ?_)
        rcases Nat.lt_or_ge (k * (2 * bs)) A with h | h
        · exact hq k k1 h
        · have h' := mul_same (k := k) (t := t) (c := 2 * bs) (by omega) (by omega)
          have i1 := r1 (Nat.le_refl _) (by omega)
          rw [Nat.min_eq_right (by omega)] at i1
          rw [h', hA, Nat.min_eq_right (by omega)]
          exact i1
theorem stable_out : ∀ (f bs : Nat) (l : List Hk), l0.length - bs ≤ f → 0 < bs → bs ≤ 2000 → l.Perm l0 → BlkF bs l0.length l 0 l0.length →
    Runs (cfg [k_isort, k_sym]) (stable_q7 (l0.length : Nat) (bs : Nat) (eHs l)) [.lst 46 (eHs (srtH l0))]
  | f, bs, l, hf, hb, hbn, hp, hq => by
    obtain ⟨hl, hd, hg⟩ := perm_g hd0 hg0 hp
    refine Runs.by (stable_p7 · _ _ _) ?_
    by_cases h : bs < l0.length
    · rw [ev_lt_t (by omega)]
      have e2 : 2 * (bs : Int) = ((2 * bs : Nat) : Int) := by omega
      rw [e2, w64 (by omega) (by omega)]
      obtain ⟨f, rfl⟩ : ∃ k, f = k + 1 := ⟨f - 1, by omega⟩
      have := stable_in h0 hd0 hg0 hb (by omega) [.lst 46 (eHs (srtH l0))] (fun l' hp' hq' => stable_out f (2 * bs) l' (by omega) (by omega) (by omega) hp' hq') l0.length 0 l (by omega) (by omega) hp (fun k k1 k2 => by omega) (fun k k1 k2 => hq k (by omega) k2)
      rw [Nat.zero_mul, Nat.zero_add] at this
      exact .go this
    · rw [ev_lt_f (by omega)]
      have inc : IncL l := by
        by_cases hz : l0.length = 0
        · obtain rfl : l = [] := List.eq_nil_of_length_eq_zero (by omega)
          exact List.Pairwise.nil
        · have := hq 0 (by omega) (by omega)
          rw [Nat.zero_mul, Nat.zero_add, Nat.min_eq_right (by omega)] at this
          unfold slc at this
          rwa [List.drop_zero, List.take_of_length_le (by omega)] at this
      rw [srtH_eq hd0 inc fun g => hp.mem_iff]
      exact .ret
theorem stable_fst : ∀ (f t : Nat) (l : List Hk), l0.length - t * 20 ≤ f → t * 20 ≤ l0.length → l.Perm l0 → BlkF 20 l0.length l 0 (t * 20) →
    Runs (cfg [k_isort, k_sym]) (stable_q2 (l0.length : Nat) 20 ((t * 20 : Nat) : Int) ((t * 20 + 20 : Nat) : Int) (eHs l)) [.lst 46 (eHs (srtH l0))]
  | f, t, l, hf, ht, hp, hq => by
    obtain ⟨hl, hd, hg⟩ := perm_g hd0 hg0 hp
    refine Runs.by (stable_p2 · _ _ _ _ _) ?_
    simp only [isHs_e, dHs_e, Bool.true_and, Int.toNat_natCast]
    by_cases h : t * 20 + 20 ≤ l0.length
    · have e3 : ((t * 20 + 20 : Nat) : Int) + 20 = (((t + 1) * 20 + 20 : Nat) : Int) := by omega
      have e4 : ((t * 20 + 20 : Nat) : Int) = (((t + 1) * 20 : Nat) : Int) := by omega
      rw [ev_le_t (by omega), gSo_t (by omega) (by omega) (by omega) hg, e3, w64 (by omega) (by omega)]
      obtain ⟨f, rfl⟩ : ∃ k, f = k + 1 := ⟨f - 1, by omega⟩
      have ih := stable_fst f (t + 1) (srtP l (t * 20) (t * 20 + 20)) (by omega) (by omega) ((srtP_perm l (by omega) (by omega)).trans hp) (fun k k1 k2 => by
        rcases Nat.lt_or_ge (k * 20) (t * 20) with h | h
        · rw [srtP_lo (by omega) (by omega)]
          exact hq k k1 h
        · have h' : k * 20 = t * 20 := by omega
          rw [h', Nat.min_eq_left (by omega), srtP_mid (by omega) (by omega)]
          exact srtH_inc (hd.sublist ((List.drop_sublist _ _).trans (List.take_sublist _ _))))
      rw [e4]
      exact .go ih
    · rw [ev_le_f (by omega), gSo_t (a := t * 20) (b := l0.length) (by omega) (by omega) (by omega) hg]
      refine .go (stable_out h0 hd0 hg0 l0.length 20 _ (by omega) (by omega) (by omega) ((srtP_perm l (by omega) (by omega)).trans hp) fun k k1 k2 => ?_)
      rcases Nat.lt_or_ge (k * 20) (t * 20) with h | h
      · rw [srtP_lo (by omega) (by omega)]
        exact hq k k1 h
      · have h' : k * 20 = t * 20 := by omega
        rw [h', Nat.min_eq_right (by omega), srtP_mid (by omega) (by omega)]
        exact srtH_inc (hd.sublist ((List.drop_sublist _ _).trans (List.take_sublist _ _)))
end
theorem gSt_of {l : List Hk} (g : gSt l = true) : l.length ≤ 1000 ∧ DifL l ∧ gAll l := by
  unfold gSt at g
  simp only [Bool.and_eq_true, List.all_eq_true] at g
  exact ⟨Nat.le_of_ble_eq_true g.1, difH_iff.1 g.2.1, g.2.2⟩
theorem stable_holds : Holds k_stable := con_run (xs := [k_isort, k_sym]) (hold1 isort_holds (hold1 sym_holds hold0)) fun aa hp r h => by
  split at h
  case h_2 => cases h
  rename_i n xs
  obtain ⟨g, rfl⟩ := xo h
  simp only [Bool.and_eq_true, beq_iff_eq] at g
  obtain ⟨g1, g2, rfl⟩ := g
  obtain ⟨l, rfl⟩ := isHs_of g1
  rw [dHs_e] at g2 ⊢
  obtain ⟨h1, h2, h3⟩ := gSt_of g2
  refine Runs.by (stable_e · _ _) ?_
  have := stable_fst h1 h2 h3 l.length 0 l (by omega) (by omega) (List.Perm.refl _) (fun k k1 k2 => by omega)
  exact .go this
theorem sort_holds : Holds k_sort := con_run (xs := [k_stable]) (hold1 stable_holds hold0) fun aa hp r h => by
  split at h
  case h_2 => cases h
  rename_i xs
  obtain ⟨g, rfl⟩ := xo h
  have g' := g
  rw [Bool.and_eq_true] at g'
  obtain ⟨l, rfl⟩ := isHs_of g'.1
  have g2 := g'.2
  rw [dHs_e] at g2 ⊢
  refine Runs.by (sort_e · _) ?_
  rw [isHs_e, dHs_e, g2, eHs_len, ev_eq_t rfl]
  exact .ret
end Go.Ab
namespace Go.Ab
open Go.Proofs
/-! codesearch/diff.common -/
noncomputable def common_q4 (a0 : List (List L)) (b1 : List (List L)) (n5 : List (List L)) (i7 : Int) (j8 : Int) (h0 : List (List L)) : Req := .point 37 [] (todoAt Tryd.prog 37 4) ⟨[(.lf (.lst 9 a0)), (.lf (.lst 9 b1)), an, an, an, (.lf (.lst 54 n5)), (.lf (.row 0)), (.lf (.int IntKind.i64 i7)), (.lf (.int IntKind.i64 j8)), an, an, an, an, an, an, an, an, an, an, an, an, an, an, an, an, an, an, an, an, an, an, an, an, an, an, an, an, an, an, an, an, an, an, an, an, an, an, an, an, an, an, an, an, an, an, an, an, an, an, an, an, an, an, an, an, an, an, an, an, an, an, an, an, an], [(.row 51 h0 true)]⟩
noncomputable def common_q6 (a0 : List (List L)) (b1 : List (List L)) (n5 : List (List L)) (i7 : Int) (j8 : Int) (k9 : Int) (h0 : List (List L)) : Req := .point 37 [] (todoAt Tryd.prog 37 6) ⟨[(.lf (.lst 9 a0)), (.lf (.lst 9 b1)), an, an, an, (.lf (.lst 54 n5)), (.lf (.row 0)), (.lf (.int IntKind.i64 i7)), (.lf (.int IntKind.i64 j8)), (.lf (.int IntKind.i64 k9)), an, an, an, an, an, an, an, an, an, an, an, an, an, an, an, an, an, an, an, an, an, an, an, an, an, an, an, an, an, an, an, an, an, an, an, an, an, an, an, an, an, an, an, an, an, an, an, an, an, an, an, an, an, an, an, an, an, an, an, an, an, an, an, an], [(.row 51 h0 true)]⟩
theorem common_e (G : Req → R) (a0 : List (List L)) (b1 : List (List L)) : runB (cfg [k_lens]) G (.enter 37 [(.lf (.lst 9 a0)), (.lf (.lst 9 b1))] []) =
  (cond (isSs a0 && (isSs b1 && gLL (dSs a0) (dSs b1)))
   (G (common_q4 a0 b1 (tabL (dSs a0) (dSs b1)) 0 0 []))
   none) := by kernel_rfl
theorem common_p4 (G : Req → R) (a0 : List (List L)) (b1 : List (List L)) (n5 : List (List L)) (i7 : Int) (j8 : Int) (h0 : List (List L)) : runB (cfg [k_lens]) G (common_q4 a0 b1 n5 i7 j8 h0) =
  (cond (leI 0 i7 && ltI i7 (↑(List.length n5) : Int))
   (cond (leI 0 j8 && ltI j8 (↑(List.length (cX 0 (atL n5 i7))) : Int))
    (cond (ltI 0 (cI 0 (atL (cX 0 (atL n5 i7)) j8)))
     (G (common_q6 a0 b1 n5 i7 j8 j8 h0))
     (some [(.lst 51 h0)]))
    none)
   none) := by kernel_rfl
theorem common_p6 (G : Req → R) (a0 : List (List L)) (b1 : List (List L)) (n5 : List (List L)) (i7 : Int) (j8 : Int) (k9 : Int) (h0 : List (List L)) : runB (cfg [k_lens]) G (common_q6 a0 b1 n5 i7 j8 k9 h0) =
  (cond (ltI k9 (↑(List.length b1) : Int))
   (cond (leI 0 k9 && ltI k9 (↑(List.length b1) : Int))
    (cond (leI 0 i7 && ltI i7 (↑(List.length a0) : Int))
     (cond (!bl (cT 0 (atL b1 k9)) == bl (cT 0 (atL a0 i7)))
      (G (common_q6 a0 b1 n5 i7 j8 (wrapI IntKind.i64 (k9 + 1)) h0))
      (cond (ltI k9 (↑(List.length b1) : Int))
       (cond (leI 0 (wrapI IntKind.i64 (i7 + 1)) && ltI (wrapI IntKind.i64 (i7 + 1)) (↑(List.length n5) : Int))
        (cond (leI 0 i7 && ltI i7 (↑(List.length n5) : Int))
         (cond (leI 0 (wrapI IntKind.i64 (k9 + 1)) && ltI (wrapI IntKind.i64 (k9 + 1)) (↑(List.length (cX 0 (atL n5 (wrapI IntKind.i64 (i7 + 1))))) : Int))
          (cond (leI 0 j8 && ltI j8 (↑(List.length (cX 0 (atL n5 i7))) : Int))
           (cond (wrapI IntKind.i64 (cI 0 (atL (cX 0 (atL n5 (wrapI IntKind.i64 (i7 + 1)))) (wrapI IntKind.i64 (k9 + 1))) + 1) == cI 0 (atL (cX 0 (atL n5 i7)) j8))
            (cond (roomN (List.length h0 + 1) 16)
             (G (common_q4 a0 b1 n5 (wrapI IntKind.i64 (i7 + 1)) (wrapI IntKind.i64 (k9 + 1)) (h0 ++ [[L.int IntKind.i64 i7, L.int IntKind.i64 k9]])))
             none)
            (G (common_q4 a0 b1 n5 (wrapI IntKind.i64 (i7 + 1)) j8 h0)))
           none)
          none)
         none)
        none)
       (G (common_q4 a0 b1 n5 (wrapI IntKind.i64 (i7 + 1)) j8 h0))))
     none)
    none)
   (cond (ltI k9 (↑(List.length b1) : Int))
    (cond (leI 0 (wrapI IntKind.i64 (i7 + 1)) && ltI (wrapI IntKind.i64 (i7 + 1)) (↑(List.length n5) : Int))
     (cond (leI 0 i7 && ltI i7 (↑(List.length n5) : Int))
      (cond (leI 0 (wrapI IntKind.i64 (k9 + 1)) && ltI (wrapI IntKind.i64 (k9 + 1)) (↑(List.length (cX 0 (atL n5 (wrapI IntKind.i64 (i7 + 1))))) : Int))
       (cond (leI 0 j8 && ltI j8 (↑(List.length (cX 0 (atL n5 i7))) : Int))
        (cond (wrapI IntKind.i64 (cI 0 (atL (cX 0 (atL n5 (wrapI IntKind.i64 (i7 + 1)))) (wrapI IntKind.i64 (k9 + 1))) + 1) == cI 0 (atL (cX 0 (atL n5 i7)) j8))
         (cond (roomN (List.length h0 + 1) 16)
          (G (common_q4 a0 b1 n5 (wrapI IntKind.i64 (i7 + 1)) (wrapI IntKind.i64 (k9 + 1)) (h0 ++ [[L.int IntKind.i64 i7, L.int IntKind.i64 k9]])))
          none)
         (G (common_q4 a0 b1 n5 (wrapI IntKind.i64 (i7 + 1)) j8 h0)))
        none)
       none)
      none)
     none)
    (G (common_q4 a0 b1 n5 (wrapI IntKind.i64 (i7 + 1)) j8 h0)))) := by kernel_rfl

/-! codesearch/diff.Lines$1 -/
theorem dgap_e (G : Req → R) (p : Int) (q : Int) (x : Int) (y : Int) (hs : List (List L)) (bs : List (List L)) : runB (cfg [k_clS]) G (.enter 35 [(.lf (.int IntKind.i64 (p))), (.lf (.int IntKind.i64 (q))), (.lf (.ptr 0 0)), (.lf (.ptr 1 0)), (.lf (.ptr 2 0)), (.lf (.ptr 3 0))] [(.box [(.int IntKind.i64)] [(.int IntKind.i64 (x))]), (.box [(.int IntKind.i64)] [(.int IntKind.i64 (y))]), (.box [(.sl 46)] [(.row (4))]), (.box [(.sl 9)] [(.lst 9 bs)]), (.row 46 hs true)]) =
  (cond (ltI x p)
   (cond (leI 0 q && leI q (↑(List.length bs) : Int) && (leI 0 y && leI y (↑(Int.toNat q) : Int)))
    (both
     (dupN 1
      (cond (isSs (List.drop (Int.toNat y) (List.take (Int.toNat q) bs)) && sm (List.length (dSs (List.drop (Int.toNat y) (List.take (Int.toNat q) bs)))))
       (cond (roomN (List.length hs + 1) 40)
        (some [(.int IntKind.i64 (wrapI IntKind.i64 (p + 1))), (.int IntKind.i64 (wrapI IntKind.i64 (q + 1))), (.lst 46 (hs ++ [[L.int IntKind.i64 x, L.int IntKind.i64 p, L.lst 9 (eSs (dSs (List.drop (Int.toNat y) (List.take (Int.toNat q) bs))))]])), (.lst 9 bs)])
        none)
       none))
     (both
      (dupN 1
       (cond (isSs (List.drop (Int.toNat y) (List.take (Int.toNat q) bs)) && sm (List.length (dSs (List.drop (Int.toNat y) (List.take (Int.toNat q) bs)))))
        (cond (roomN (List.length hs + 1) 40)
         (some [(.int IntKind.i64 (wrapI IntKind.i64 (p + 1))), (.int IntKind.i64 (wrapI IntKind.i64 (q + 1))), (.lst 46 (hs ++ [[L.int IntKind.i64 x, L.int IntKind.i64 p, L.lst 9 (eSs (dSs (List.drop (Int.toNat y) (List.take (Int.toNat q) bs))))]])), (.lst 9 bs)])
         none)
        none))
      (cond (isSs (List.drop (Int.toNat y) (List.take (Int.toNat q) bs)) && sm (List.length (dSs (List.drop (Int.toNat y) (List.take (Int.toNat q) bs)))))
       (cond (roomN (List.length hs + 1) 40)
        (some [(.int IntKind.i64 (wrapI IntKind.i64 (p + 1))), (.int IntKind.i64 (wrapI IntKind.i64 (q + 1))), (.lst 46 (hs ++ [[L.int IntKind.i64 x, L.int IntKind.i64 p, L.lst 9 (eSs (dSs (List.drop (Int.toNat y) (List.take (Int.toNat q) bs))))]])), (.lst 9 bs)])
        none)
       none)))
    none)
   (cond (ltI y q)
    (cond (leI 0 q && leI q (↑(List.length bs) : Int) && (leI 0 y && leI y (↑(Int.toNat q) : Int)))
     (both
      (dupN 1
       (cond (isSs (List.drop (Int.toNat y) (List.take (Int.toNat q) bs)) && sm (List.length (dSs (List.drop (Int.toNat y) (List.take (Int.toNat q) bs)))))
        (cond (roomN (List.length hs + 1) 40)
         (some [(.int IntKind.i64 (wrapI IntKind.i64 (p + 1))), (.int IntKind.i64 (wrapI IntKind.i64 (q + 1))), (.lst 46 (hs ++ [[L.int IntKind.i64 x, L.int IntKind.i64 p, L.lst 9 (eSs (dSs (List.drop (Int.toNat y) (List.take (Int.toNat q) bs))))]])), (.lst 9 bs)])
         none)
        none))
      (both
       (dupN 1
        (cond (isSs (List.drop (Int.toNat y) (List.take (Int.toNat q) bs)) && sm (List.length (dSs (List.drop (Int.toNat y) (List.take (Int.toNat q) bs)))))
         (cond (roomN (List.length hs + 1) 40)
          (some [(.int IntKind.i64 (wrapI IntKind.i64 (p + 1))), (.int IntKind.i64 (wrapI IntKind.i64 (q + 1))), (.lst 46 (hs ++ [[L.int IntKind.i64 x, L.int IntKind.i64 p, L.lst 9 (eSs (dSs (List.drop (Int.toNat y) (List.take (Int.toNat q) bs))))]])), (.lst 9 bs)])
          none)
         none))
       (cond (isSs (List.drop (Int.toNat y) (List.take (Int.toNat q) bs)) && sm (List.length (dSs (List.drop (Int.toNat y) (List.take (Int.toNat q) bs)))))
        (cond (roomN (List.length hs + 1) 40)
         (some [(.int IntKind.i64 (wrapI IntKind.i64 (p + 1))), (.int IntKind.i64 (wrapI IntKind.i64 (q + 1))), (.lst 46 (hs ++ [[L.int IntKind.i64 x, L.int IntKind.i64 p, L.lst 9 (eSs (dSs (List.drop (Int.toNat y) (List.take (Int.toNat q) bs))))]])), (.lst 9 bs)])
         none)
        none)))
     none)
    (some [(.int IntKind.i64 (wrapI IntKind.i64 (p + 1))), (.int IntKind.i64 (wrapI IntKind.i64 (q + 1))), (.lst 46 hs), (.lst 9 bs)]))) := by kernel_rfl

/-! codesearch/diff.Lines -/
noncomputable def dLines_q5 (a0 : List (List L)) (x14 : List (List L)) (x15 : Int) (x16 : Int) (h0_0 : List (List L)) (h2_0 : Int) (h3_0 : Int) (h4 : List (List L)) : Req := .point 13 [] (todoAt Tryd.prog 13 5) ⟨[(.lf (.lst 9 a0)), an, an, (.lf (.ptr 0 0)), an, (.lf (.ptr 1 0)), an, an, (.lf (.clo 35 [(.ptr 2 0), (.ptr 3 0), (.ptr 1 0), (.ptr 0 0)])), an, an, an, an, an, (.lf (.lst 51 x14)), (.lf (.int IntKind.i64 x15)), (.lf (.int IntKind.i64 x16)), an, an, an, an, an, an, an, an, an, an, an, an, an, an, an, an, an], [(.box [(.sl 9)] [(.lst 9 h0_0)]), (.box [(.sl 46)] [(.row 4)]), (.box [(.int IntKind.i64)] [(.int IntKind.i64 h2_0)]), (.box [(.int IntKind.i64)] [(.int IntKind.i64 h3_0)]), (.row 46 h4 true)]⟩
theorem dLines_e (G : Req → R) (a0 : List (List L)) (b1 : List (List L)) : runB (cfg [k_common, k_dgap]) G (.enter 13 [(.lf (.lst 9 a0)), (.lf (.lst 9 b1))] []) =
  (cond (isSs a0 && (isSs b1 && gLL (dSs a0) (dSs b1)))
   (G (dLines_q5 a0 (ePs (comF (dSs a0) 0 0 (dSs b1))) ((↑(List.length (ePs (comF (dSs a0) 0 0 (dSs b1)))) : Int)) 0 b1 0 0 []))
   none) := by kernel_rfl
theorem dLines_p5 (G : Req → R) (a0 : List (List L)) (x14 : List (List L)) (x15 : Int) (x16 : Int) (h0_0 : List (List L)) (h2_0 : Int) (h3_0 : Int) (h4 : List (List L)) : runB (cfg [k_common, k_dgap]) G (dLines_q5 a0 x14 x15 x16 h0_0 h2_0 h3_0 h4) =
  (cond (ltI x16 x15)
   (cond (leI 0 x16 && ltI x16 (↑(List.length x14) : Int))
    (cond (isHs h4 && (isSs h0_0 && (sm (List.length h4) && (sm (List.length h0_0) && (leI 0 h2_0 && leI h2_0 (cI 0 (atL x14 x16)) && (leI 0 h3_0 && leI h3_0 (cI 1 (atL x14 x16)) && (leI (cI 1 (atL x14 x16)) (↑(List.length h0_0) : Int) && leI (cI 0 (atL x14 x16)) 1000000)))))))
     (G (dLines_q5 a0 x14 x15 (wrapI IntKind.i64 (x16 + 1)) h0_0 (cI 0 (atL x14 x16) + 1) (cI 1 (atL x14 x16) + 1) (h4 ++ bif ltI h2_0 (cI 0 (atL x14 x16)) || ltI h3_0 (cI 1 (atL x14 x16)) then [[L.int IntKind.i64 h2_0, L.int IntKind.i64 (cI 0 (atL x14 x16)), L.lst 9 (List.drop (Int.toNat h3_0) (List.take (Int.toNat (cI 1 (atL x14 x16))) h0_0))]] else [])))
     none)
    none)
   (cond (isHs h4 && (isSs h0_0 && (sm (List.length h4) && (sm (List.length h0_0) && (leI 0 h2_0 && leI h2_0 (↑(List.length a0) : Int) && (leI 0 h3_0 && leI h3_0 (↑(List.length h0_0) : Int) && (leI (↑(List.length h0_0) : Int) (↑(List.length h0_0) : Int) && leI (↑(List.length a0) : Int) 1000000)))))))
    (some [(.lst 46 (h4 ++ bif ltI h2_0 (↑(List.length a0) : Int) || ltI h3_0 (↑(List.length h0_0) : Int) then [[L.int IntKind.i64 h2_0, L.int IntKind.i64 (↑(List.length a0) : Int), L.lst 9 (List.drop (Int.toNat h3_0) (List.take (Int.toNat (↑(List.length h0_0) : Int)) h0_0))]] else []))])
    none)) := by kernel_rfl

/-! codesearch/codesearchref23.Lines -/
noncomputable def rLines_q5 (a0 : List (List L)) (b1 : List (List L)) (t5 : List (List L)) (i7 : Int) (j8 : Int) (x9 : Int) (y10 : Int) (h0 : List (List L)) : Req := .point 14 [] (todoAt Tryd.prog 14 5) ⟨[(.lf (.lst 9 a0)), (.lf (.lst 9 b1)), an, an, an, (.lf (.lst 54 t5)), (.lf (.row 0)), (.lf (.int IntKind.i64 i7)), (.lf (.int IntKind.i64 j8)), (.lf (.int IntKind.i64 x9)), (.lf (.int IntKind.i64 y10)), an, an, an, an, an, an, an, an, an, an, an, an, an, an, an, an, an, an, an, an, an, an, an, an, an, an, an, an, an, an, an, an, an, an, an, an, an, an, an, an, an, an, an, an, an, an, an, an, an, an, an, an, an, an, an, an, an, an, an, an, an, an, an, an, an, an, an, an], [(.row 46 h0 true)]⟩
theorem rLines_e (G : Req → R) (a0 : List (List L)) (b1 : List (List L)) : runB (cfg [k_table, k_next, k_gap]) G (.enter 14 [(.lf (.lst 9 a0)), (.lf (.lst 9 b1))] []) =
  (cond (isSs a0 && (isSs b1 && gLL (dSs a0) (dSs b1)))
   (G (rLines_q5 a0 b1 (tabL (dSs a0) (dSs b1)) 0 0 0 0 []))
   none) := by kernel_rfl
theorem rLines_p5 (G : Req → R) (a0 : List (List L)) (b1 : List (List L)) (t5 : List (List L)) (i7 : Int) (j8 : Int) (x9 : Int) (y10 : Int) (h0 : List (List L)) : runB (cfg [k_table, k_next, k_gap]) G (rLines_q5 a0 b1 t5 i7 j8 x9 y10 h0) =
  (cond (leI 0 i7 && ltI i7 (↑(List.length t5) : Int))
   (cond (leI 0 j8 && ltI j8 (↑(List.length (cX 0 (atL t5 i7))) : Int))
    (cond (ltI 0 (cI 0 (atL (cX 0 (atL t5 i7)) j8)))
     (cond (leI 0 i7 && ltI i7 (↑(List.length a0) : Int))
      (cond (isSs b1 && (leI 0 j8 && leI j8 (↑(List.length b1) : Int) && sm (List.length b1)))
       (cond (ltI (j8 + (↑(idx (bl (cT 0 (atL a0 i7))) (List.drop (Int.toNat j8) (dSs b1))) : Int)) (↑(List.length b1) : Int))
        (cond (leI 0 (wrapI IntKind.i64 (i7 + 1)) && ltI (wrapI IntKind.i64 (i7 + 1)) (↑(List.length t5) : Int))
         (cond (leI 0 i7 && ltI i7 (↑(List.length t5) : Int))
          (cond (leI 0 (wrapI IntKind.i64 (j8 + (↑(idx (bl (cT 0 (atL a0 i7))) (List.drop (Int.toNat j8) (dSs b1))) : Int) + 1)) && ltI (wrapI IntKind.i64 (j8 + (↑(idx (bl (cT 0 (atL a0 i7))) (List.drop (Int.toNat j8) (dSs b1))) : Int) + 1)) (↑(List.length (cX 0 (atL t5 (wrapI IntKind.i64 (i7 + 1))))) : Int))
           (cond (leI 0 j8 && ltI j8 (↑(List.length (cX 0 (atL t5 i7))) : Int))
            (cond (wrapI IntKind.i64 (cI 0 (atL (cX 0 (atL t5 (wrapI IntKind.i64 (i7 + 1)))) (wrapI IntKind.i64 (j8 + (↑(idx (bl (cT 0 (atL a0 i7))) (List.drop (Int.toNat j8) (dSs b1))) : Int) + 1))) + 1) == cI 0 (atL (cX 0 (atL t5 i7)) j8))
             (cond (leI 0 (j8 + (↑(idx (bl (cT 0 (atL a0 i7))) (List.drop (Int.toNat j8) (dSs b1))) : Int)) && leI (j8 + (↑(idx (bl (cT 0 (atL a0 i7))) (List.drop (Int.toNat j8) (dSs b1))) : Int)) (↑(List.length b1) : Int) && (leI 0 y10 && leI y10 (↑(Int.toNat (j8 + (↑(idx (bl (cT 0 (atL a0 i7))) (List.drop (Int.toNat j8) (dSs b1))) : Int))) : Int)))
              (cond (isHs h0 && (isSs (List.drop (Int.toNat y10) (List.take (Int.toNat (j8 + (↑(idx (bl (cT 0 (atL a0 i7))) (List.drop (Int.toNat j8) (dSs b1))) : Int))) b1)) && (sm (List.length h0) && sm (List.length (List.drop (Int.toNat y10) (List.take (Int.toNat (j8 + (↑(idx (bl (cT 0 (atL a0 i7))) (List.drop (Int.toNat j8) (dSs b1))) : Int))) b1))))))
               (G (rLines_q5 a0 b1 t5 (wrapI IntKind.i64 (i7 + 1)) (wrapI IntKind.i64 (j8 + (↑(idx (bl (cT 0 (atL a0 i7))) (List.drop (Int.toNat j8) (dSs b1))) : Int) + 1)) (wrapI IntKind.i64 (i7 + 1)) (wrapI IntKind.i64 (j8 + (↑(idx (bl (cT 0 (atL a0 i7))) (List.drop (Int.toNat j8) (dSs b1))) : Int) + 1)) (h0 ++ bif x9 == i7 && Nat.beq (List.length (List.drop (Int.toNat y10) (List.take (Int.toNat (j8 + (↑(idx (bl (cT 0 (atL a0 i7))) (List.drop (Int.toNat j8) (dSs b1))) : Int))) b1))) 0 then [] else [[L.int IntKind.i64 x9, L.int IntKind.i64 i7, L.lst 9 (List.drop (Int.toNat y10) (List.take (Int.toNat (j8 + (↑(idx (bl (cT 0 (atL a0 i7))) (List.drop (Int.toNat j8) (dSs b1))) : Int))) b1))]])))
               none)
              none)
             (G (rLines_q5 a0 b1 t5 (wrapI IntKind.i64 (i7 + 1)) j8 x9 y10 h0)))
            none)
           none)
          none)
         none)
        (G (rLines_q5 a0 b1 t5 (wrapI IntKind.i64 (i7 + 1)) j8 x9 y10 h0)))
       none)
      none)
     (cond (leI 0 y10 && leI y10 (↑(List.length b1) : Int))
      (cond (isHs h0 && (isSs (List.drop (Int.toNat y10) (List.take (List.length b1) b1)) && (sm (List.length h0) && sm (List.length (List.drop (Int.toNat y10) (List.take (List.length b1) b1))))))
       (some [(.lst 46 (h0 ++ bif x9 == (↑(List.length a0) : Int) && Nat.beq (List.length (List.drop (Int.toNat y10) (List.take (List.length b1) b1))) 0 then [] else [[L.int IntKind.i64 x9, L.int IntKind.i64 (↑(List.length a0) : Int), L.lst 9 (List.drop (Int.toNat y10) (List.take (List.length b1) b1))]]))])
       none)
      none))
    none)
   none) := by kernel_rfl

end Go.Ab
namespace Go.Ab
open Go.Proofs

theorem idx_le (x : W) : ∀ l : List W, idx x l ≤ l.length
  | [] => Nat.le_refl _
  | y :: l => by
    have := idx_le x l
    unfold idx
    simp only [List.length_cons]
    split <;> omega
theorem idx_ne (x : W) : ∀ (l : List W) (q : Nat), q < idx x l → l.getD q [] ≠ x
  | [], q, h => by simp [idx] at h
  | y :: l, q, h => by
    unfold idx at h
    split at h
    · omega
    · rename_i hy
      cases q with
      | zero => simpa using hy
      | succ q => simpa using idx_ne x l q (by omega)
theorem idx_eq (x : W) : ∀ l : List W, idx x l < l.length → l.getD (idx x l) [] = x
  | [], h => by simp [idx] at h
  | y :: l, h => by
    unfold idx at h ⊢
    split
    · rename_i hy; simpa using hy
    · rename_i hy
      rw [if_neg hy] at h
      simpa using idx_eq x l (by simpa using h)
theorem getD_dropW (l : List W) (i j : Nat) : (l.drop i).getD j [] = l.getD (i + j) [] := by simp [List.getD]

/-! ### reading the table -/
theorem tab_len (a b : List W) : (tabL a b).length = a.length + 1 := by simp [tabL, mz_len]
theorem tab_row {a b : List W} {i : Nat} (h : i ≤ a.length) : cX 0 (atL (tabL a b) (i : Int)) = cellsF (b.length + 1) fun q => lv a b i q := by
  have e : (tabL a b).getD i [] = [L.lst 3 ((mz a b (-1) ((b.length : Int) - 1)).getD i [])] := by
    unfold tabL
    simp [List.getD, mz_len, show i < a.length + 1 by omega]
  unfold atL
  rw [Int.toNat_natCast, e, mz_row (by omega)]
  refine congrArg (cellsF (b.length + 1)) (funext fun q => ?_)
  rw [if_pos (by omega)]
theorem tab_at {a b : List W} {i j : Nat} (h : i ≤ a.length) (hj : j ≤ b.length) : cI 0 (atL (cX 0 (atL (tabL a b) (i : Int))) (j : Int)) = lv a b i j := by
  rw [tab_row h, cellsF_at (by omega), cI_one]
theorem tab_rl {a b : List W} {i : Nat} (h : i ≤ a.length) : (cX 0 (atL (tabL a b) (i : Int))).length = b.length + 1 := by rw [tab_row h, cellsF_len]
theorem tab_row1 {a b : List W} {i : Nat} (h : i < a.length) : (cX 0 (atL (tabL a b) ((i : Int) + 1))).length = b.length + 1 := tab_rl (i := i + 1) h
theorem tab_at1 {a b : List W} {i j : Nat} (h : i < a.length) (hj : j < b.length) : cI 0 (atL (cX 0 (atL (tabL a b) ((i : Int) + 1))) ((j : Int) + 1)) = lv a b (i + 1) (j + 1) := tab_at (i := i + 1) (j := j + 1) h hj

theorem comF_end {i j : Nat} {b : List W} : comF [] i j b = [] := rfl
theorem comF_zero {l bs : List W} {i j : Nat} (h : lcs l bs = 0) : comF l i j bs = [] := by
  cases l with
  | nil => rfl
  | cons x a => rw [comF, if_pos h]
/-- One step of the selection. -/
theorem comF_step {a b : List W} {i j : Nat} (hi : i < a.length) (hj : j ≤ b.length) (h : lv a b i j ≠ 0) :
    comF (a.drop i) i j (b.drop j) = if j + idx (a.getD i []) (b.drop j) < b.length ∧ lv a b (i + 1) (j + idx (a.getD i []) (b.drop j) + 1) + 1 = lv a b i j
      then (i, j + idx (a.getD i []) (b.drop j)) :: comF (a.drop (i + 1)) (i + 1) (j + idx (a.getD i []) (b.drop j) + 1) (b.drop (j + idx (a.getD i []) (b.drop j) + 1))
      else comF (a.drop (i + 1)) (i + 1) j (b.drop j) := by
  unfold lv at h ⊢
  rw [drop_at [] hi] at h ⊢
  rw [comF, if_neg (by omega), List.drop_drop, List.length_drop]
  have e : j + (idx (a.getD i []) (b.drop j) + 1) = j + idx (a.getD i []) (b.drop j) + 1 := by omega
  rw [e]
  by_cases c : j + idx (a.getD i []) (b.drop j) < b.length ∧ lcs (a.drop (i + 1)) (b.drop (j + idx (a.getD i []) (b.drop j) + 1)) + 1 = lcs (a.getD i [] :: a.drop (i + 1)) (b.drop j)
  · rw [if_pos ⟨by omega, c.2⟩, if_pos ⟨c.1, by omega⟩]
  · rw [if_neg (fun h => c ⟨by omega, h.2⟩), if_neg (fun h => c ⟨h.1, by omega⟩)]

section
variable {a b : List W} (ha : a.length ≤ 1000000) (hb : b.length ≤ 1000000)
include ha hb
theorem common_in {r : List L} {i j : Nat} {acc : List (Nat × Nat)} (hi : i < a.length) (hj : j ≤ b.length) (hacc : acc.length ≤ i)
    (h0 : Runs (cfg [k_lens]) (common_q4 (eSs a) (eSs b) (tabL a b) ((i + 1 : Nat) : Int) (j : Nat) (ePs acc)) r ∨ (j + idx (a.getD i []) (b.drop j) < b.length ∧ lv a b (i + 1) (j + idx (a.getD i []) (b.drop j) + 1) + 1 = lv a b i j))
    (h1 : j + idx (a.getD i []) (b.drop j) < b.length → lv a b (i + 1) (j + idx (a.getD i []) (b.drop j) + 1) + 1 = lv a b i j →
      Runs (cfg [k_lens]) (common_q4 (eSs a) (eSs b) (tabL a b) ((i + 1 : Nat) : Int) ((j + idx (a.getD i []) (b.drop j) + 1 : Nat) : Int) (ePs (acc ++ [(i, j + idx (a.getD i []) (b.drop j))]))) r) :
    ∀ d k : Nat, k + d = j + idx (a.getD i []) (b.drop j) → j ≤ k → Runs (cfg [k_lens]) (common_q6 (eSs a) (eSs b) (tabL a b) (i : Nat) (j : Nat) (k : Nat) (ePs acc)) r
  | 0, k, hk, hjk => by
    have hle := idx_le (a.getD i []) (b.drop j)
    rw [List.length_drop] at hle
    rw [← hk, Nat.add_zero] at h0 h1
    have l11 := lv_lo a b (i + 1) (k + 1)
    have h11 := lv_hi a b (i + 1) (k + 1)
    refine Runs.by (common_p6 · _ _ _ _ _ _ _) ?_
    by_cases hkb : k < b.length
    · have hx : b.getD k [] = a.getD i [] := by
        have := idx_eq (a.getD i []) (b.drop j) (by rw [List.length_drop]; omega)
        rw [getD_dropW, ← hk] at this
        exact this
      simp (disch := omega) only [eSs_len, ev_lt_t, ev_le_t, Bool.and_self, cond_true, eSs_at, cT_e, not_beq_bl, decide_eq_true hx, Bool.not_true, cond_false, w64, tab_len, tab_rl, tab_row1, tab_at1, tab_at]
      refine RunsF.cond (fun hc => ?_) (fun hc => ?_)
      · have hc := eq_of_beq hc
        have hm : (ePs acc).length = acc.length := by simp [ePs]
        rw [hm, roomN_t (by omega) (by omega)]
        simp only [cond_true]
        have := h1 hkb hc
        have e : ePs (acc ++ [(i, k)]) = ePs acc ++ [[L.int .i64 i, L.int .i64 k]] := by simp [ePs, eP]
        rw [e] at this
        exact .go this
      · rcases h0 with h0 | h0
        · exact .go h0
        · rw [h0.2] at hc; simp at hc
    · simp (disch := omega) only [eSs_len, ev_lt_f, cond_false, w64]
      rcases h0 with h0 | h0
      · exact .go h0
      · omega
  | d + 1, k, hk, hjk => by
    have hle := idx_le (a.getD i []) (b.drop j)
    rw [List.length_drop] at hle
    have ih := common_in hi hj hacc h0 h1 d (k + 1) (by omega) (by omega)
    have hx : b.getD k [] ≠ a.getD i [] := by
      have := idx_ne (a.getD i []) (b.drop j) (k - j) (by omega)
      rw [getD_dropW, show j + (k - j) = k by omega] at this
      exact this
    refine Runs.by (common_p6 · _ _ _ _ _ _ _) ?_
    simp (disch := omega) only [eSs_len, ev_lt_t, ev_le_t, Bool.and_self, cond_true, eSs_at, cT_e, not_beq_bl, decide_eq_false hx, Bool.not_false, w64]
    exact .go ih
theorem common_out : ∀ m i j (acc : List (Nat × Nat)), i + m = a.length → j ≤ b.length → acc.length ≤ i →
    Runs (cfg [k_lens]) (common_q4 (eSs a) (eSs b) (tabL a b) (i : Nat) (j : Nat) (ePs acc)) [.lst 51 (ePs (acc ++ comF (a.drop i) i j (b.drop j)))]
  | 0, i, j, acc, h, hj, hacc => by
    obtain rfl : i = a.length := by omega
    refine Runs.by (common_p4 · _ _ _ _ _ _) ?_
    simp (disch := omega) only [tab_len, tab_rl, tab_at, ev_lt_t, ev_le_t, Bool.and_self, cond_true, lv_end1, ev_lt_f, cond_false]
    rw [drop_end (l := a) (Nat.le_refl _), comF_end, List.append_nil]
    exact .ret
  | m + 1, i, j, acc, h, hj, hacc => by
    have hi : i < a.length := by omega
    have l0 := lv_lo a b i j
    refine Runs.by (common_p4 · _ _ _ _ _ _) ?_
    simp (disch := omega) only [tab_len, tab_rl, tab_at, ev_lt_t, ev_le_t, Bool.and_self, cond_true]
    refine RunsF.cond (fun hc => ?_) (fun hc => ?_)
    · have hc := ltI_t hc
      have hle := idx_le (a.getD i []) (b.drop j)
      rw [List.length_drop] at hle
      have hs := comF_step hi hj (by omega)
      rw [hs]
      refine .go (common_in ha hb hi hj hacc ?_ (fun k1 k2 => ?_) (idx (a.getD i []) (b.drop j)) j rfl (Nat.le_refl _))
      · by_cases c : j + idx (a.getD i []) (b.drop j) < b.length ∧ lv a b (i + 1) (j + idx (a.getD i []) (b.drop j) + 1) + 1 = lv a b i j
        · exact .inr c
        · rw [if_neg c]
          exact .inl (common_out m (i + 1) j acc (by omega) hj (by omega))
      · rw [if_pos ⟨k1, k2⟩]
        have := common_out m (i + 1) (j + idx (a.getD i []) (b.drop j) + 1) (acc ++ [(i, j + idx (a.getD i []) (b.drop j))]) (by omega) (by omega) (by simp; omega)
        rw [List.append_assoc] at this
        exact this
    · have hc := ltI_f hc
      rw [comF_zero (by unfold lv at hc; omega), List.append_nil]
      exact .ret
end
theorem common_holds : Holds k_common := conSS_of (ks := [k_lens]) (hold1 lens_holds hold0) fun a b g => by
  have g' := g
  unfold gLL at g
  rw [Bool.and_eq_true] at g
  have ha := sm_of g.1
  have hb := sm_of g.2
  refine Runs.by (common_e · _ _) ?_
  simp only [isSs_e, dSs_e, g', Bool.and_self, cond_true]
  exact .go (common_out ha hb a.length 0 0 [] (by omega) (by omega) (by simp))
end Go.Ab
namespace Go.Ab
open Go.Proofs

theorem td_len (b : List W) (y q : Nat) (h : q ≤ b.length) : ((b.take q).drop y).length = q - y := by
  rw [List.length_drop, List.length_take]; omega
theorem dgap_holds : Holds k_dgap := con_run (xs := [k_clS]) (hold1 clS_holds hold0) fun aa hp r h => by
  split at h
  case h_2 => cases h
  rename_i p q x y bs hs
  obtain ⟨g, rfl⟩ := xo h
  simp only [Bool.and_eq_true] at g
  obtain ⟨g1, g2, g3, g4, ⟨⟨g5, g6⟩, ⟨g7, g8⟩, g9, g10⟩⟩ := g
  obtain ⟨l, rfl⟩ := isHs_of g1
  obtain ⟨b, rfl⟩ := isSs_of g2
  rw [eSs_len] at g4 g9
  rw [eHs_len] at g3
  have g3 := sm_of g3
  have g4 := sm_of g4
  have g5 := leI_t g5
  have g6 := leI_t g6
  have g7 := leI_t g7
  have g8 := leI_t g8
  have g9 := leI_t g9
  have g10 := leI_t g10
  obtain ⟨x, rfl⟩ := Int.eq_ofNat_of_zero_le g5
  obtain ⟨y, rfl⟩ := Int.eq_ofNat_of_zero_le g7
  obtain ⟨p, rfl⟩ := Int.eq_ofNat_of_zero_le (show 0 ≤ p by omega)
  obtain ⟨q, rfl⟩ := Int.eq_ofNat_of_zero_le (show 0 ≤ q by omega)
  have hl := td_len b y q (by omega)
  have hsm : sm ((b.take q).drop y).length = true := sm_t (by omega)
  refine Runs.by (dgap_e · _ _ _ _ _ _) ?_
  simp only [Int.toNat_natCast]
  simp (disch := omega) only [eSs_len, eHs_len, eSs_take, eSs_drop, isSs_e, dSs_e, hsm, Bool.and_self, cond_true, ev_le_t, w64, roomN_t, dupN_eq, both_self]
  refine RunsF.cond (fun hc => ?_) (fun hc => ?_)
  · rw [hc]; exact .ret
  · rw [hc, Bool.false_or]
    refine RunsF.cond (fun hd => ?_) (fun hd => ?_)
    · rw [hd]; exact .ret
    · rw [hd]; exact .ret' (by simp)

/-- Pairs in order, within both lists. -/
def Chain (n m : Nat) : Nat → Nat → List (Nat × Nat) → Prop
  | x, y, [] => x ≤ n ∧ y ≤ m
  | x, y, p :: ps => x ≤ p.1 ∧ y ≤ p.2 ∧ p.1 < n ∧ p.2 < m ∧ Chain n m (p.1 + 1) (p.2 + 1) ps
theorem comF_chain {a b : List W} : ∀ m i j x y : Nat, i + m = a.length → j ≤ b.length → x ≤ i → y ≤ j → Chain a.length b.length x y (comF (a.drop i) i j (b.drop j))
  | 0, i, j, x, y, h, hj, hx, hy => by
    rw [drop_end (by omega), comF_end]
    exact ⟨by omega, by omega⟩
  | m + 1, i, j, x, y, h, hj, hx, hy => by
    by_cases hz : lv a b i j = 0
    · rw [comF_zero (by unfold lv at hz; omega)]
      exact ⟨by omega, by omega⟩
    · rw [comF_step (by omega) hj hz]
      split
      · rename_i hc
        exact ⟨hx, by show y ≤ j + _; omega, by show i < _; omega, hc.1, comF_chain m (i + 1) _ _ _ (by omega) (by omega) (Nat.le_refl _) (Nat.le_refl _)⟩
      · exact comF_chain m (i + 1) j x y (by omega) hj (by omega) hy
theorem gap_cond (b : List W) {x y p q : Nat} : cond (ltI (x : Int) (p : Int) || ltI (y : Int) (q : Int)) [[L.int .i64 x, L.int .i64 p, L.lst 9 (eSs ((b.take q).drop y))]] [] = eHs (gap1 b x y p q) := by
  unfold gap1
  by_cases h : x < p ∨ y < q
  · rw [if_pos h]
    have : (ltI (x : Int) (p : Int) || ltI (y : Int) (q : Int)) = true := by
      rw [Bool.or_eq_true, ltI_eq, ltI_eq, decide_eq_true_eq, decide_eq_true_eq]; omega
    rw [this]; rfl
  · rw [if_neg h]
    have : (ltI (x : Int) (p : Int) || ltI (y : Int) (q : Int)) = false := by
      rw [Bool.or_eq_false_iff, ltI_eq, ltI_eq, decide_eq_false_iff_not, decide_eq_false_iff_not]; omega
    rw [this]; rfl
theorem gap_cond2 (b : List W) {x y p q : Nat} (hx : x ≤ p) (hy : y ≤ q) (hq : q ≤ b.length) : cond (((x : Int) == (p : Int)) && Nat.beq ((b.take q).drop y).length 0) [] [[L.int .i64 x, L.int .i64 p, L.lst 9 (eSs ((b.take q).drop y))]] = eHs (gap1 b x y p q) := by
  rw [td_len b y q hq]
  unfold gap1
  by_cases h : x < p ∨ y < q
  · rw [if_pos h]
    have : (((x : Int) == (p : Int)) && Nat.beq (q - y) 0) = false := by
      rw [Bool.and_eq_false_iff]
      rcases h with h | h
      · left; simp; omega
      · right; rw [← Bool.not_eq_true, Nat.beq_eq]; omega
    rw [this]; rfl
  · rw [if_neg h]
    have : (((x : Int) == (p : Int)) && Nat.beq (q - y) 0) = true := by
      rw [Bool.and_eq_true, beq_iff_eq, Nat.beq_eq]; omega
    rw [this]; rfl
theorem gap1_len (b : List W) (x y p q : Nat) : (gap1 b x y p q).length ≤ 1 := by
  unfold gap1
  split <;> simp
theorem ePs_at (ps : List (Nat × Nat)) {t : Nat} (h : t < ps.length) : atL (ePs ps) (t : Int) = eP (ps.getD t (0, 0)) := atL_map _ ps t (0, 0) h
theorem eP0 (p : Nat × Nat) : cI 0 (eP p) = p.1 := rfl
theorem eP1 (p : Nat × Nat) : cI 1 (eP p) = p.2 := rfl

section
variable {a b : List W} (ha : a.length ≤ 1000000) (hb : b.length ≤ 1000000)
include ha hb
theorem dLines_loop (ps : List (Nat × Nat)) (hps : ps.length ≤ 900000) : ∀ d t x y (hs : List Hk), t + d = ps.length → Chain a.length b.length x y (ps.drop t) → hs.length ≤ t →
    Runs (cfg [k_common, k_dgap]) (dLines_q5 (eSs a) (ePs ps) (ps.length : Nat) (t : Nat) (eSs b) (x : Nat) (y : Nat) (eHs hs)) [.lst 46 (eHs (hs ++ gapsF b a.length b.length x y (ps.drop t)))]
  | 0, t, x, y, hs, h, hc, hl => by
    refine Runs.by (dLines_p5 · _ _ _ _ _ _ _ _) ?_
    rw [drop_end (l := ps) (by omega)] at hc ⊢
    have hsm1 : sm hs.length = true := sm_t (by omega)
    have hsm2 : sm b.length = true := sm_t hb
    have c1 := hc.1
    have c2 := hc.2
    simp (disch := omega) only [ev_lt_f, cond_false, isHs_e, isSs_e, eHs_len, eSs_len, hsm1, hsm2, ev_le_t, Bool.and_self, cond_true, Int.toNat_natCast, eSs_take, eSs_drop, gap_cond, eHs_app]
    exact .ret
  | d + 1, t, x, y, hs, h, hc, hl => by
    have ht : t < ps.length := by omega
    rw [drop_at (l := ps) (0, 0) ht] at hc ⊢
    obtain ⟨c1, c2, c3, c4, c5⟩ := hc
    have ih := dLines_loop ps hps d (t + 1) ((ps.getD t (0, 0)).1 + 1) ((ps.getD t (0, 0)).2 + 1) (hs ++ gap1 b x y (ps.getD t (0, 0)).1 (ps.getD t (0, 0)).2) (by omega) c5 (by
      have := gap1_len b x y (ps.getD t (0, 0)).1 (ps.getD t (0, 0)).2
      rw [List.length_append]; omega)
    refine Runs.by (dLines_p5 · _ _ _ _ _ _ _ _) ?_
    have hsm1 : sm hs.length = true := sm_t (by omega)
    have hsm2 : sm b.length = true := sm_t hb
    have hpl : (ePs ps).length = ps.length := by simp [ePs]
    simp (disch := omega) only [hpl, ev_lt_t, ev_le_t, Bool.and_self, cond_true, ePs_at, eP0, eP1, isHs_e, isSs_e, eHs_len, eSs_len, hsm1, hsm2, w64, Int.toNat_natCast, eSs_take, eSs_drop, gap_cond, eHs_app]
    rw [List.append_assoc] at ih
    exact .go ih
omit ha hb in
theorem comF_len : ∀ (l : List W) (i j : Nat) (bs : List W), (comF l i j bs).length ≤ l.length
  | [], i, j, bs => by simp [comF]
  | x :: l, i, j, bs => by
    rw [comF]
    split
    · simp
    · split
      · have := comF_len l (i + 1) (j + idx x bs + 1) (bs.drop (idx x bs + 1))
        simp only [List.length_cons]; omega
      · have := comF_len l (i + 1) j bs
        simp only [List.length_cons]; omega
end
theorem rLines_loop {a b : List W} (ha : a.length ≤ 900000) (hb : b.length ≤ 900000) : ∀ m i j x (hs : List Hk), i + m = a.length → j ≤ b.length → x ≤ i → hs.length ≤ i →
    Runs (cfg [k_table, k_next, k_gap]) (rLines_q5 (eSs a) (eSs b) (tabL a b) (i : Nat) (j : Nat) (x : Nat) (j : Nat) (eHs hs)) [.lst 46 (eHs (hs ++ gapsF b a.length b.length x j (comF (a.drop i) i j (b.drop j))))]
  | 0, i, j, x, hs, h, hj, hx, hl => by
    obtain rfl : i = a.length := by omega
    have hsm1 : sm hs.length = true := sm_t (by omega)
    have hlen := td_len b j b.length (Nat.le_refl _)
    have hsm2 : sm ((b.take b.length).drop j).length = true := sm_t (by omega)
    refine Runs.by (rLines_p5 · _ _ _ _ _ _ _ _) ?_
    simp (disch := omega) only [tab_len, tab_rl, tab_at, ev_lt_t, ev_le_t, Bool.and_self, cond_true, lv_end1, ev_lt_f, cond_false, eSs_len, eHs_len, isHs_e, Int.toNat_natCast, eSs_take, eSs_drop, isSs_e, hsm1, hsm2]
    rw [drop_end (l := a) (Nat.le_refl _), comF_end, gapsF, gap_cond2 b hx hj (Nat.le_refl _), eHs_app]
    exact .ret
  | m + 1, i, j, x, hs, h, hj, hx, hl => by
    have hi : i < a.length := by omega
    have l0 := lv_lo a b i j
    have hsm1 : sm hs.length = true := sm_t (by omega)
    have hsmb : sm b.length = true := sm_t (by omega)
    refine Runs.by (rLines_p5 · _ _ _ _ _ _ _ _) ?_
    simp (disch := omega) only [tab_len, tab_rl, tab_at, ev_lt_t, ev_le_t, Bool.and_self, cond_true, eSs_len, eHs_len, isHs_e, isSs_e, hsm1, hsmb, eSs_at, cT_e, dSs_e, bl_mk, Int.toNat_natCast]
    have hle := idx_le (a.getD i []) (b.drop j)
    rw [List.length_drop] at hle
    refine RunsF.cond (fun hc => ?_) (fun hc => ?_)
    · have hc := ltI_t hc
      rw [comF_step hi hj (by omega)]
      generalize hk : idx (a.getD i []) (b.drop j) = k at hle ⊢
      have ek : ((j : Int) + (k : Int)) = ((j + k : Nat) : Int) := by omega
      simp only [ek]
      have l11 := lv_lo a b (i + 1) (j + k + 1)
      have h11 := lv_hi a b (i + 1) (j + k + 1)
      refine RunsF.cond (fun hd => ?_) (fun hd => ?_)
      · have hd := ltI_t hd
        have hlen := td_len b j (j + k) (by omega)
        have hsm2 : sm ((b.take (j + k)).drop j).length = true := sm_t (by omega)
        simp (disch := omega) only [w64, tab_row1, tab_at1, ev_lt_t, ev_le_t, Bool.and_self, cond_true, Int.toNat_natCast, eSs_take, eSs_drop, isSs_e, eSs_len, hsm2]
        refine RunsF.cond (fun he => ?_) (fun he => ?_)
        · have he := eq_of_beq he
          rw [if_pos ⟨by omega, he⟩, gapsF, gap_cond2 b hx (by omega) (by omega), eHs_app]
          have ih := rLines_loop ha hb m (i + 1) (j + k + 1) (i + 1) (hs ++ gap1 b x j i (j + k)) (by omega) (by omega) (Nat.le_refl _) (by
            have := gap1_len b x j i (j + k)
            rw [List.length_append]; omega)
          rw [List.append_assoc] at ih
          exact .go ih
        · rw [if_neg (fun hh => by rw [hh.2] at he; simp at he)]
          exact .go (rLines_loop ha hb m (i + 1) j x hs (by omega) hj (by omega) (by omega))
      · have hd := ltI_f hd
        rw [if_neg (fun hh => by omega)]
        simp (disch := omega) only [w64]
        exact .go (rLines_loop ha hb m (i + 1) j x hs (by omega) hj (by omega) (by omega))
    · have hc := ltI_f hc
      rw [comF_zero (by unfold lv at hc; omega), gapsF]
      have hlen := td_len b j b.length (Nat.le_refl _)
      have hsm2 : sm ((b.take b.length).drop j).length = true := sm_t (by omega)
      simp (disch := omega) only [eSs_take, eSs_drop, isSs_e, hsm2, Bool.and_self, cond_true, eSs_len]
      rw [gap_cond2 b (by omega) hj (Nat.le_refl _), eHs_app]
      exact .ret
theorem gL5_of {a b : List W} (g : gL5 a b = true) : a.length ≤ 900000 ∧ b.length ≤ 900000 := by
  unfold gL5 at g
  rw [Bool.and_eq_true] at g
  exact ⟨Nat.le_of_ble_eq_true g.1, Nat.le_of_ble_eq_true g.2⟩
theorem gLL_t {a b : List W} (ha : a.length ≤ 1000000) (hb : b.length ≤ 1000000) : gLL a b = true := by
  unfold gLL
  rw [sm_t ha, sm_t hb]
  rfl
theorem dLines_holds : Holds k_Lines := conSS_of (ks := [k_common, k_dgap]) (hold1 common_holds (hold1 dgap_holds hold0)) fun a b g => by
  obtain ⟨ha, hb⟩ := gL5_of g
  have hl := comF_len a 0 0 b
  refine Runs.by (dLines_e · _ _) ?_
  simp only [isSs_e, dSs_e, gLL_t (show a.length ≤ 1000000 by omega) (show b.length ≤ 1000000 by omega), Bool.and_self, cond_true]
  have hc := comF_chain (a := a) (b := b) a.length 0 0 0 0 (by omega) (by omega) (Nat.le_refl _) (Nat.le_refl _)
  have := dLines_loop (a := a) (b := b) (by omega) (by omega) (comF a 0 0 b) (by omega) (comF a 0 0 b).length 0 0 0 [] (by omega) hc (by simp)
  have e : (ePs (comF a 0 0 b)).length = (comF a 0 0 b).length := by simp [ePs]
  rw [e]
  exact .go this
theorem rLines_holds : Holds k_rLines := conSS_of (ks := [k_table, k_next, k_gap]) (hold1 table_holds (hold1 next_holds (hold1 gap_holds hold0))) fun a b g => by
  obtain ⟨ha, hb⟩ := gL5_of g
  refine Runs.by (rLines_e · _ _) ?_
  simp only [isSs_e, dSs_e, gLL_t (show a.length ≤ 1000000 by omega) (show b.length ≤ 1000000 by omega), Bool.and_self, cond_true]
  exact .go (rLines_loop ha hb a.length 0 0 0 [] (by omega) (by omega) (Nat.le_refl _) (by simp))
end Go.Ab
namespace Go.Ab
open Go.Proofs

theorem gAp_of {a : List W} {l : List Hk} (g : gAp a l = true) : a.length ≤ 1000000 ∧ l.length ≤ 1000 ∧ ∀ i, i < l.length → (l.getD i default).ls.length ≤ 100000 := by
  unfold gAp at g
  simp only [Bool.and_eq_true] at g
  refine ⟨sm_of g.1, Nat.le_of_ble_eq_true g.2.1, fun i hi => ?_⟩
  have hm : l.getD i default ∈ l := by simp [List.getD_eq_getElem?_getD, hi]
  exact Nat.le_of_ble_eq_true (List.all_eq_true.1 g.2.2 _ hm)
theorem take_len (a : List W) : List.take a.length a = a := List.take_length ..
theorem eSs_takeL (a : List W) : List.take a.length (eSs a) = eSs a := by rw [eSs_take, take_len]

theorem apply_loop (a : List W) (l : List Hk) (ha : a.length ≤ 1000000) (hl : l.length ≤ 1000) (hls : ∀ i, i < l.length → (l.getD i default).ls.length ≤ 100000) :
    ∀ (d t i : Nat) (acc : List W), t + d = l.length → RQ (a.length : Nat) ((i : Int) - 1) (l.drop t) → i ≤ a.length → acc.length ≤ i + t * 100000 →
      Runs (cfg [k_right]) (apply_q7 (eSs a) (i : Nat) (eHs l) (l.length : Nat) (t : Nat) (eSs acc)) [.lst 9 (eSs (acc ++ appG a i (l.drop t))), .int .i64 0]
  | 0, t, i, acc, h, hq, hi, hacc => by
    refine Runs.by (apply_p7 · _ _ _ _ _ _) ?_
    rw [drop_end (l := l) (by omega), appG]
    simp (disch := omega) only [ev_lt_f, cond_false, eSs_len, ev_le_t, Bool.and_self, cond_true, Int.toNat_natCast, eSs_takeL, eSs_drop, List.length_drop, roomN_t, eSs_app]
    exact .ret
  | d + 1, t, i, acc, h, hq, hi, hacc => by
    have ht : t < l.length := by omega
    have h1 := hls t ht
    rw [drop_at (l := l) default ht] at hq ⊢
    generalize hg : l.getD t default = g at hq h1 ⊢
    obtain ⟨q1, q2, q3, q4, q5⟩ := hq
    obtain ⟨f, hf⟩ := Int.eq_ofNat_of_zero_le (show 0 ≤ g.fr by omega)
    obtain ⟨e, he⟩ := Int.eq_ofNat_of_zero_le (show 0 ≤ g.to by omega)
    have hdl : ((eSs a).take f).drop i = eSs ((a.take f).drop i) := by rw [eSs_take, eSs_drop]
    have hdn : ((a.take f).drop i).length = f - i := by rw [List.length_drop, List.length_take]; omega
    have ih := apply_loop a l ha hl hls d (t + 1) e (acc ++ (a.take f).drop i ++ g.ls) (by omega) (by
      rw [he] at q5
      exact RQ_mono q5 (by omega)) (by omega) (by simp only [List.length_append, hdn]; omega)
    refine Runs.by (apply_p7 · _ _ _ _ _ _) ?_
    simp (disch := omega) only [eHs_len, ev_lt_t, ev_le_t, Bool.and_self, cond_true, eHs_at, hg, cI0_e, cI1_e, cX2_e, hf, he, eSs_len, Int.toNat_natCast, hdl, hdn, roomN_t, List.length_append, w64, eSs_app]
    rw [appG, hf, he]
    simp only [Int.toNat_natCast]
    simp only [List.append_assoc] at ih ⊢
    exact .go ih
theorem apply_holds : Holds k_apply := conSH_of (ks := [k_right]) (hold1 right_holds hold0) fun a l g => by
  obtain ⟨ha, hl, hls⟩ := gAp_of g
  refine Runs.by (apply_e · _ _) ?_
  simp only [isHs_e, dHs_e, sm_t (show l.length ≤ 1000000 by omega), Bool.and_self, cond_true, eSs_len, eHs_len]
  unfold applyF
  by_cases hz : rightF l (a.length : Nat) = 0
  · rw [ev_ne_f hz, ev_eq_t hz]
    simp only [cond_false, cond_true]
    rw [hz]
    have := apply_loop a l ha hl hls l.length 0 0 [] (by omega) ((rightF_iff (by omega)).1 hz) (by omega) (by simp)
    exact .go this
  · rw [ev_ne_t hz, ev_eq_f hz]
    exact .ret
theorem rApply_loop (a : List W) (l : List Hk) (ha : a.length ≤ 1000000) (hl : l.length ≤ 1000) (hls : ∀ i, i < l.length → (l.getD i default).ls.length ≤ 100000) :
    ∀ (d t i : Nat) (acc : List W), t + d = l.length → RQ (a.length : Nat) ((i : Int) - 1) (l.drop t) → i ≤ a.length → acc.length ≤ i + t * 100000 →
      Runs (cfg [k_rright]) (rApply_q7 (eSs a) (eHs l) (i : Nat) (t : Nat) (eSs acc)) [.lst 9 (eSs (acc ++ appG a i (l.drop t))), .int .i64 0]
  | 0, t, i, acc, h, hq, hi, hacc => by
    refine Runs.by (rApply_p7 · _ _ _ _ _) ?_
    rw [drop_end (l := l) (by omega), appG]
    simp (disch := omega) only [eHs_len, ev_lt_f, cond_false, eSs_len, ev_le_t, Bool.and_self, cond_true, Int.toNat_natCast, eSs_takeL, eSs_drop, List.length_drop, roomN_t, eSs_app]
    exact .ret
  | d + 1, t, i, acc, h, hq, hi, hacc => by
    have ht : t < l.length := by omega
    have h1 := hls t ht
    rw [drop_at (l := l) default ht] at hq ⊢
    generalize hg : l.getD t default = g at hq h1 ⊢
    obtain ⟨q1, q2, q3, q4, q5⟩ := hq
    obtain ⟨f, hf⟩ := Int.eq_ofNat_of_zero_le (show 0 ≤ g.fr by omega)
    obtain ⟨e, he⟩ := Int.eq_ofNat_of_zero_le (show 0 ≤ g.to by omega)
    have hdl : ((eSs a).take f).drop i = eSs ((a.take f).drop i) := by rw [eSs_take, eSs_drop]
    have hdn : ((a.take f).drop i).length = f - i := by rw [List.length_drop, List.length_take]; omega
    have ih := rApply_loop a l ha hl hls d (t + 1) e (acc ++ (a.take f).drop i ++ g.ls) (by omega) (by
      rw [he] at q5
      exact RQ_mono q5 (by omega)) (by omega) (by simp only [List.length_append, hdn]; omega)
    refine Runs.by (rApply_p7 · _ _ _ _ _) ?_
    simp (disch := omega) only [eHs_len, ev_lt_t, ev_le_t, Bool.and_self, cond_true, eHs_at, hg, cI0_e, cI1_e, cX2_e, hf, he, eSs_len, Int.toNat_natCast, hdl, hdn, roomN_t, List.length_append, w64, eSs_app]
    rw [appG, hf, he]
    simp only [Int.toNat_natCast]
    simp only [List.append_assoc] at ih ⊢
    exact .go ih
theorem rApply_holds : Holds k_rapply := conSH_of (ks := [k_rright]) (hold1 rright_holds hold0) fun a l g => by
  obtain ⟨ha, hl, hls⟩ := gAp_of g
  refine Runs.by (rApply_e · _ _) ?_
  simp only [isHs_e, dHs_e, sm_t (show l.length ≤ 1000000 by omega), Bool.and_self, cond_true, eSs_len]
  unfold applyF
  by_cases hz : rightF l (a.length : Nat) = 0
  · rw [ev_ne_f hz, ev_eq_t hz]
    simp only [cond_false, cond_true]
    rw [hz]
    have := rApply_loop a l ha hl hls l.length 0 0 [] (by omega) ((rightF_iff (by omega)).1 hz) (by omega) (by simp)
    exact .go this
  · rw [ev_ne_t hz, ev_eq_f hz]
    exact .ret

theorem inv_loop (a : List W) (l : List Hk) (ha : a.length ≤ 1000000) (hl : l.length ≤ 1000) (hls : ∀ i, i < l.length → (l.getD i default).ls.length ≤ 100000) :
    ∀ d t (x v : Int) (acc : List Hk), t + d = l.length → -1 ≤ x → RQ (a.length : Nat) x (l.drop t) → acc.length = t → -(2000000 * (t : Int)) ≤ v → v ≤ 2000000 * (t : Int) →
      Runs (cfg [k_right, k_clS]) (inv_q7 (eSs a) v (eHs l) (l.length : Nat) (t : Nat) (eHs acc)) [.lst 46 (eHs (acc ++ invG a v (l.drop t))), .int .i64 0]
  | 0, t, x, v, acc, h, hx, hq, hacc, hv1, hv2 => by
    refine Runs.by (inv_p7 · _ _ _ _ _ _) ?_
    rw [drop_end (l := l) (by omega), invG, List.append_nil]
    simp (disch := omega) only [ev_lt_f, cond_false]
    exact .ret
  | d + 1, t, x, v, acc, h, hx, hq, hacc, hv1, hv2 => by
    have ht : t < l.length := by omega
    have h1 := hls t ht
    rw [drop_at (l := l) default ht] at hq ⊢
    generalize hg : l.getD t default = g at hq h1 ⊢
    obtain ⟨q1, q2, q3, q4, q5⟩ := hq
    obtain ⟨f, hf⟩ := Int.eq_ofNat_of_zero_le (show 0 ≤ g.fr by omega)
    obtain ⟨e, he⟩ := Int.eq_ofNat_of_zero_le (show 0 ≤ g.to by omega)
    have hdl : ((eSs a).take e).drop f = eSs ((a.take e).drop f) := by rw [eSs_take, eSs_drop]
    have hdn : ((a.take e).drop f).length = e - f := by rw [List.length_drop, List.length_take]; omega
    have hsm : sm ((a.take e).drop f).length = true := sm_t (by omega)
    have ih := inv_loop a l ha hl hls d (t + 1) g.to (v + ((g.ls.length : Nat) - (g.to - g.fr))) (acc ++ [⟨g.fr + v, g.fr + v + (g.ls.length : Nat), (a.take e).drop f⟩]) (by omega) (by omega) q5 (by simp [hacc]) (by omega) (by omega)
    rw [hf, he] at ih
    refine Runs.by (inv_p7 · _ _ _ _ _ _) ?_
    simp (disch := omega) only [eHs_len, ev_lt_t, ev_le_t, Bool.and_self, cond_true, eHs_at, hg, cI0_e, cI1_e, cX2_e, hf, he, eSs_len, Int.toNat_natCast, hdl, isSs_e, dSs_e, hsm, roomN_t, hacc, w64, dupN_eq, both_self, eH_eq, eHs_one, eHs_app]
    rw [invG, hf, he]
    simp only [Int.toNat_natCast]
    rw [List.append_assoc] at ih
    exact .go ih
theorem inv_holds : Holds k_inv := conSH_of (ks := [k_right, k_clS]) (hold1 right_holds (hold1 clS_holds hold0)) fun a l g => by
  obtain ⟨ha, hl, hls⟩ := gAp_of g
  refine Runs.by (inv_e · _ _) ?_
  simp only [isHs_e, dHs_e, sm_t (show l.length ≤ 1000000 by omega), Bool.and_self, cond_true, eSs_len, eHs_len]
  unfold invF
  by_cases hz : rightF l (a.length : Nat) = 0
  · rw [ev_ne_f hz, ev_eq_t hz]
    simp only [cond_false, cond_true]
    rw [hz]
    have := inv_loop a l ha hl hls l.length 0 (-1) 0 [] (by omega) (by omega) ((rightF_iff (by omega)).1 hz) rfl (by omega) (by omega)
    exact .go this
  · rw [ev_ne_t hz, ev_eq_f hz]
    exact .ret
theorem rInv_loop (a : List W) (l : List Hk) (ha : a.length ≤ 1000000) (hl : l.length ≤ 1000) (hls : ∀ i, i < l.length → (l.getD i default).ls.length ≤ 100000) :
    ∀ d t (x v : Int) (acc : List Hk), t + d = l.length → -1 ≤ x → RQ (a.length : Nat) x (l.drop t) → acc.length = t → -(2000000 * (t : Int)) ≤ v → v ≤ 2000000 * (t : Int) →
      Runs (cfg [k_rright]) (rInv_q7 (eSs a) (eHs l) v (t : Nat) (eHs acc)) [.lst 46 (eHs (acc ++ invG a v (l.drop t))), .int .i64 0]
  | 0, t, x, v, acc, h, hx, hq, hacc, hv1, hv2 => by
    refine Runs.by (rInv_p7 · _ _ _ _ _) ?_
    rw [drop_end (l := l) (by omega), invG, List.append_nil]
    simp (disch := omega) only [eHs_len, ev_lt_f, cond_false]
    exact .ret
  | d + 1, t, x, v, acc, h, hx, hq, hacc, hv1, hv2 => by
    have ht : t < l.length := by omega
    have h1 := hls t ht
    rw [drop_at (l := l) default ht] at hq ⊢
    generalize hg : l.getD t default = g at hq h1 ⊢
    obtain ⟨q1, q2, q3, q4, q5⟩ := hq
    obtain ⟨f, hf⟩ := Int.eq_ofNat_of_zero_le (show 0 ≤ g.fr by omega)
    obtain ⟨e, he⟩ := Int.eq_ofNat_of_zero_le (show 0 ≤ g.to by omega)
    have hdl : ((eSs a).take e).drop f = eSs ((a.take e).drop f) := by rw [eSs_take, eSs_drop]
    have hdn : ((a.take e).drop f).length = e - f := by rw [List.length_drop, List.length_take]; omega
    have ih := rInv_loop a l ha hl hls d (t + 1) g.to (v + ((g.ls.length : Nat) - (g.to - g.fr))) (acc ++ [⟨g.fr + v, g.fr + v + (g.ls.length : Nat), (a.take e).drop f⟩]) (by omega) (by omega) q5 (by simp [hacc]) (by omega) (by omega)
    rw [hf, he] at ih
    refine Runs.by (rInv_p7 · _ _ _ _ _) ?_
    simp (disch := omega) only [eHs_len, ev_lt_t, ev_le_t, Bool.and_self, cond_true, eHs_at, hg, cI0_e, cI1_e, cX2_e, hf, he, eSs_len, Int.toNat_natCast, hdl, hdn, roomN_t, hacc, w64, List.nil_append, eH_eq, eHs_one, eHs_app]
    rw [invG, hf, he]
    simp only [Int.toNat_natCast]
    rw [List.append_assoc] at ih
    have e1 : v + ((g.ls.length : Nat) : Int) - ((e : Int) - f) = v + (((g.ls.length : Nat) : Int) - ((e : Int) - f)) := by omega
    simp only [e1]
    exact .go ih
theorem rInv_holds : Holds k_rinv := conSH_of (ks := [k_rright]) (hold1 rright_holds hold0) fun a l g => by
  obtain ⟨ha, hl, hls⟩ := gAp_of g
  refine Runs.by (rInv_e · _ _) ?_
  simp only [isHs_e, dHs_e, sm_t (show l.length ≤ 1000000 by omega), Bool.and_self, cond_true, eSs_len]
  unfold invF
  by_cases hz : rightF l (a.length : Nat) = 0
  · rw [ev_ne_f hz, ev_eq_t hz]
    simp only [cond_false, cond_true]
    rw [hz]
    have := rInv_loop a l ha hl hls l.length 0 (-1) 0 [] (by omega) (by omega) ((rightF_iff (by omega)).1 hz) rfl (by omega) (by omega)
    exact .go this
  · rw [ev_ne_t hz, ev_eq_f hz]
    exact .ret
end Go.Ab
namespace Go.Ab
open Go.Proofs

theorem gaps_right {b : List W} {n : Nat} : ∀ (ps : List (Nat × Nat)) (x y : Nat), Chain n b.length x y ps → RQ n ((x : Int) - 1) (gapsF b n b.length x y ps)
  | [], x, y, hc => by
    obtain ⟨h1, h2⟩ := hc
    rw [gapsF]
    unfold gap1
    split
    · rename_i h
      refine ⟨by show (x : Int) - 1 < (x : Int); omega, by show (x : Int) ≤ (n : Int); omega, by show (n : Int) ≤ (n : Int); omega, fun ⟨e1, e2⟩ => ?_, by show (n : Int) ≤ (n : Int); omega⟩
      have e1 : (x : Int) = (n : Int) := e1
      have e2 := congrArg List.length e2
      rw [td_len b y b.length (Nat.le_refl _)] at e2
      simp only [List.length_nil] at e2
      omega
    · show (x : Int) - 1 ≤ (n : Int)
      omega
  | p :: ps, x, y, hc => by
    obtain ⟨h1, h2, h3, h4, h5⟩ := hc
    have ih := gaps_right ps (p.1 + 1) (p.2 + 1) h5
    have e : ((p.1 + 1 : Nat) : Int) - 1 = (p.1 : Nat) := by omega
    rw [e] at ih
    rw [gapsF]
    unfold gap1
    split
    · rename_i h
      refine ⟨by show (x : Int) - 1 < (x : Int); omega, by show (x : Int) ≤ (p.1 : Int); omega, by show (p.1 : Int) ≤ (n : Int); omega, fun ⟨e1, e2⟩ => ?_, ih⟩
      have e1 : (x : Int) = (p.1 : Int) := e1
      have e2 := congrArg List.length e2
      rw [td_len b y p.2 (by omega)] at e2
      simp only [List.length_nil] at e2
      omega
    · rw [List.nil_append]
      exact RQ_mono ih (by omega)
theorem lnF_right (a b : List W) : RQ a.length (-1) (lnF a b) := by
  have hc := comF_chain (a := a) (b := b) a.length 0 0 0 0 (by omega) (by omega) (Nat.le_refl _) (Nat.le_refl _)
  have := gaps_right _ _ _ hc
  simpa [lnF] using this
theorem gaps_len (b : List W) (n m : Nat) : ∀ (ps : List (Nat × Nat)) (x y : Nat), (gapsF b n m x y ps).length ≤ ps.length + 1 ∧ ∀ h ∈ gapsF b n m x y ps, h.ls.length ≤ b.length
  | [], x, y => by
    have hl : ∀ h ∈ gap1 b x y n m, h.ls.length ≤ b.length := fun h hm => by
      unfold gap1 at hm
      split at hm
      · rw [List.mem_singleton.1 hm]
        simp only [List.length_drop, List.length_take]; omega
      · cases hm
    exact ⟨gap1_len b x y n m, hl⟩
  | p :: ps, x, y => by
    obtain ⟨i1, i2⟩ := gaps_len b n m ps (p.1 + 1) (p.2 + 1)
    rw [gapsF]
    refine ⟨?_, fun h hm => ?_⟩
    · have := gap1_len b x y p.1 p.2
      rw [List.length_append, List.length_cons]; omega
    · rcases List.mem_append.1 hm with hm | hm
      · unfold gap1 at hm
        split at hm
        · rw [List.mem_singleton.1 hm]
          simp only [List.length_drop, List.length_take]; omega
        · cases hm
      · exact i2 h hm
theorem lnF_len (a b : List W) : (lnF a b).length ≤ a.length + 1 ∧ ∀ h ∈ lnF a b, h.ls.length ≤ b.length := by
  obtain ⟨h1, h2⟩ := gaps_len b a.length b.length (comF a 0 0 b) 0 0
  have := comF_len a 0 0 b
  exact ⟨Nat.le_trans h1 (by omega), h2⟩
theorem RQ_inc {n : Int} : ∀ {l : List Hk} {x : Int}, RQ n x l → IncL l ∧ ∀ h ∈ l, x < h.fr
  | [], x, _ => ⟨List.Pairwise.nil, fun h hm => by cases hm⟩
  | g :: l, x, ⟨a, b, c, d, e⟩ => by
    obtain ⟨i1, i2⟩ := RQ_inc e
    exact ⟨List.Pairwise.cons (fun h hm => by have := i2 h hm; omega) i1, fun h hm => by
      rcases List.mem_cons.1 hm with rfl | hm
      · exact a
      · have := i2 h hm; omega⟩
theorem RQ_mem {n : Int} : ∀ {l : List Hk} {x : Int}, RQ n x l → ∀ h ∈ l, x < h.fr ∧ h.fr ≤ h.to ∧ h.to ≤ n
  | [], x, _, h, hm => by cases hm
  | g :: l, x, ⟨a, b, c, d, e⟩, h, hm => by
    rcases List.mem_cons.1 hm with rfl | hm
    · exact ⟨a, b, c⟩
    · obtain ⟨i1, i2, i3⟩ := RQ_mem e h hm
      exact ⟨by omega, i2, i3⟩
theorem mgA_dif {l ms : List Hk} {n : Int} {x y : Int} (hl : RQ n x l) (hm : RQ n y ms) (hc : mgC l ms = false) : DifL (mgA l ms) := by
  refine List.pairwise_append.2 ⟨inc_dif (RQ_inc hl).1, (inc_dif (RQ_inc hm).1).sublist List.filter_sublist, fun g hg g' hg' he => ?_⟩
  obtain ⟨h1, h2⟩ := List.mem_filter.1 hg'
  have k1 := RQ_mem hl g hg
  have k2 := RQ_mem hm g' h1
  have hne : g ≠ g' := fun e => by
    unfold newH at h2
    have : l.any (fun x => decide (x = g')) = true := List.any_eq_true.2 ⟨g, hg, by simpa using e⟩
    rw [this] at h2; cases h2
  have : mgC l ms = true := by
    unfold mgC
    refine List.any_eq_true.2 ⟨g', h1, List.any_eq_true.2 ⟨g, hg, ?_⟩⟩
    unfold cfl
    rw [decide_eq_false hne, ev_le_t (by omega), ev_le_t (by omega)]; rfl
  rw [hc] at this; cases this

/-! ### Merge -/
abbrev failM : List L := [.lst 9 [], .int .i64 14]
section
variable {base : List W} {l ms : List Hk} (hll : l.length ≤ 401) (hml : ms.length ≤ 401) (hls : ∀ h ∈ l, h.ls.length ≤ 400) (hms : ∀ h ∈ ms, h.ls.length ≤ 400)
include hll hml hls
theorem merge_in {i : Nat} (hi : i < ms.length) (tw0 : List Hk) (hs : List Hk) (hhs : hs.length ≤ 802) (y : Hk) (hy : y.ls.length ≤ 400) (T : List L) : ∀ (m j : Nat) (tw : Bool), j + m = l.length →
    ((l.drop j).any (cfl y) = true → T = failM) →
    ((l.drop j).any (cfl y) = false → Runs (cfg [k_Lines, k_clH, k_same, k_sort, k_apply]) (merge_q4 (eSs base) (eHs l) (eHs ms) (ms.length : Nat) ((i + 1 : Nat) : Int) (eHs (hs ++ cond (tw || (l.drop j).any fun x => decide (x = y)) [] [y]))) T) →
    Runs (cfg [k_Lines, k_clH, k_same, k_sort, k_apply]) (merge_q8 (eSs base) (eHs l) tw (eHs ms) (ms.length : Nat) (i : Nat) (eHs l) (l.length : Nat) (j : Nat) (eHs hs) y.fr y.to (eSs y.ls)) T
  | 0, j, tw, h, hc, hT => by
    refine Runs.by (merge_p8 · _ _ _ _ _ _ _ _ _ _ _ _ _) ?_
    rw [drop_end (l := l) (by omega)] at hT
    have hT := hT rfl
    rw [List.any_nil, Bool.or_false] at hT
    have e : (i : Int) + 1 = ((i + 1 : Nat) : Int) := by omega
    simp only [eHs_len]
    rw [ev_lt_f (by omega), e, w64 (n := ((i + 1 : Nat) : Int)) (by omega) (by omega), roomN_t (by omega) (by omega)]
    cases tw
    · rw [← eHs_app] at hT
      exact .go hT
    · simp only [cond_true, List.append_nil] at hT
      exact .go hT
  | m + 1, j, tw, h, hc, hT => by
    have hj : j < l.length := by omega
    have hxl := hls _ (getD_mem default hj)
    rw [drop_at (default : Hk) hj, List.any_cons] at hc hT
    rw [List.any_cons] at hT
    have hat := eHs_at hj
    generalize l.getD j default = x at *
    refine Runs.by (merge_p8 · _ _ _ _ _ _ _ _ _ _ _ _ _) ?_
    have e : (j : Int) + 1 = ((j + 1 : Nat) : Int) := by omega
    rw [hat, cI0_e, cI1_e, cX2_e, e, w64 (n := ((j + 1 : Nat) : Int)) (by omega) (by omega), ev_lt_t (a := (j : Int)) (b := (l.length : Int)) (by omega), ev_le_t (a := 0) (b := (j : Int)) (by omega), eHs_len, ev_lt_t (a := (j : Int)) (b := (l.length : Int)) (by omega), isSs_e, isSs_e, dSs_e, dSs_e, gLL_t (by omega) (by omega)]
    have eqx : (x.fr == y.fr && (x.to == y.to && decide (x.ls = y.ls))) = decide (x = y) := by
      obtain ⟨x1, x2, x3⟩ := x
      obtain ⟨y1, y2, y3⟩ := y
      rw [Bool.eq_iff_iff]
      simp
    rw [eqx]
    have ih := merge_in hi tw0 hs hhs y hy T m (j + 1)
    by_cases hxy : x = y
    · have cf : cfl y x = false := by unfold cfl; rw [decide_eq_true hxy]; rfl
      rw [cf, Bool.false_or] at hc hT
      rw [decide_eq_true hxy] at hT ⊢
      refine .go (ih true (by omega) hc fun hq => ?_)
      have := hT hq
      rw [Bool.true_or, Bool.or_true] at this
      rw [Bool.true_or]
      exact this
    · rw [decide_eq_false hxy, Bool.false_or] at hT
      rw [decide_eq_false hxy]
      by_cases h1 : y.fr ≤ x.to
      · rw [ev_le_t h1]
        by_cases h2 : x.fr ≤ y.to
        · have cf : cfl y x = true := by unfold cfl; rw [decide_eq_false hxy, ev_le_t h1, ev_le_t h2]; rfl
          rw [ev_le_t h2, hc (by rw [cf]; rfl)]
          exact .ret
        · have cf : cfl y x = false := by unfold cfl; rw [ev_le_f (a := x.fr) (by omega), Bool.and_false, Bool.and_false]
          rw [cf, Bool.false_or] at hc hT
          rw [ev_le_f (a := x.fr) (by omega)]
          exact .go (ih tw (by omega) hc hT)
      · have cf : cfl y x = false := by unfold cfl; rw [ev_le_f (a := y.fr) (by omega), Bool.false_and, Bool.and_false]
        rw [cf, Bool.false_or] at hc hT
        rw [ev_le_f (a := y.fr) (by omega)]
        exact .go (ih tw (by omega) hc hT)
include hms in
theorem merge_out (hb : base.length ≤ 400) (hS : mgC l ms = false → gSt (mgA l ms) = true) : ∀ (m i : Nat), i + m = ms.length → mgC l (ms.take i) = false →
    Runs (cfg [k_Lines, k_clH, k_same, k_sort, k_apply]) (merge_q4 (eSs base) (eHs l) (eHs ms) (ms.length : Nat) (i : Nat) (eHs (mgA l (ms.take i)))) [.lst 9 (eSs (mgL base l ms)), .int .i64 (mgE base l ms)]
  | 0, i, h, hc => by
    refine Runs.by (merge_p4 · _ _ _ _ _ _) ?_
    rw [List.take_of_length_le (by omega)] at hc ⊢
    have g1 := hS hc
    obtain ⟨g2, g3, g4⟩ := gSt_of g1
    have ga : gAp base (srtH (mgA l ms)) = true := by
      unfold gAp
      rw [sm_t (by omega), srtH_len, ev_blt g2]
      simp only [Bool.true_and, List.all_eq_true]
      intro h hm
      refine ev_blt ?_
      rcases List.mem_append.1 (mem_srtH.1 hm) with hm | hm
      · have := hls h hm; omega
      · have := hms h ((List.mem_filter.1 hm).1); omega
    rw [ev_lt_f (by omega)]
    simp only [isHs_e, dHs_e, isSs_e, dSs_e, g1, ga, Bool.and_self, cond_true, cond_false]
    unfold mgL mgE
    rw [hc]
    exact .ret
  | m + 1, i, h, hc => by
    have hi : i < ms.length := by omega
    have hyl := hms _ (getD_mem default hi)
    have hat := eHs_at hi
    have htk : ms.take (i + 1) = ms.take i ++ [ms.getD i default] := by
      rw [List.take_succ_eq_append_getElem hi]
      simp [List.getD, hi]
    have hmem := getD_mem (default : Hk) hi
    have ih := merge_out hb hS m (i + 1) (by omega)
    rw [htk] at ih
    generalize ms.getD i default = y at *
    have hml' : (mgA l (ms.take i)).length ≤ 802 := by
      unfold mgA
      have := List.length_filter_le (newH l) (ms.take i)
      rw [List.length_take] at this
      rw [List.length_append]; omega
    refine Runs.by (merge_p4 · _ _ _ _ _ _) ?_
    rw [hat, cI0_e, cI1_e, cX2_e, ev_lt_t (a := (i : Int)) (b := (ms.length : Int)) (by omega), ev_le_t (a := 0) (b := (i : Int)) (by omega), eHs_len, ev_lt_t (a := (i : Int)) (b := (ms.length : Int)) (by omega), eHs_len]
    refine .go (merge_in hll hml hls hi [] _ hml' y hyl _ l.length 0 false (by omega) (fun hq => ?_) fun hq => ?_)
    · rw [List.drop_zero] at hq
      have : mgC l ms = true := List.any_eq_true.2 ⟨y, hmem, hq⟩
      unfold mgL mgE
      rw [this]; rfl
    · rw [List.drop_zero] at hq
      have c1 : mgC l (ms.take i ++ [y]) = false := by
        unfold mgC at hc ⊢
        rw [List.any_append, hc, List.any_cons, hq]; rfl
      have ih := ih c1
      have e : mgA l (ms.take i ++ [y]) = mgA l (ms.take i) ++ cond (false || (l.drop 0).any fun x => decide (x = y)) [] [y] := by
        unfold mgA
        rw [List.filter_append, List.drop_zero, Bool.false_or, ← List.append_assoc]
        congr 1
        rw [List.filter_cons]
        unfold newH
        cases l.any fun x => decide (x = y) <;> rfl
      rw [e] at ih
      exact ih
end
theorem lnF_facts {o a : List W} (ho : o.length ≤ 400) (ha : a.length ≤ 400) : (lnF o a).length ≤ 401 ∧ ∀ h ∈ lnF o a, h.ls.length ≤ 400 := by
  obtain ⟨h1, h2⟩ := lnF_len o a
  exact ⟨by omega, fun h hm => Nat.le_trans (h2 h hm) ha⟩
theorem gMg_of {o a b : List W} (g : gMg o a b = true) : o.length ≤ 400 ∧ a.length ≤ 400 ∧ b.length ≤ 400 := by
  unfold gMg at g
  simp only [Bool.and_eq_true] at g
  exact ⟨Nat.le_of_ble_eq_true g.1, Nat.le_of_ble_eq_true g.2.1, Nat.le_of_ble_eq_true g.2.2⟩
theorem gL5_t {a b : List W} (ha : a.length ≤ 900000) (hb : b.length ≤ 900000) : gL5 a b = true := by
  unfold gL5
  rw [ev_blt ha, ev_blt hb]; rfl
theorem gSt_mgA {o a b : List W} (ho : o.length ≤ 400) (ha : a.length ≤ 400) (hb : b.length ≤ 400) (hc : mgC (lnF o a) (lnF o b) = false) : gSt (mgA (lnF o a) (lnF o b)) = true := by
  have r1 := lnF_right o a
  have r2 := lnF_right o b
  have d := mgA_dif r1 r2 hc
  have l1 := (lnF_facts ho ha).1
  have l2 := (lnF_facts ho hb).1
  unfold gSt
  have hl : (mgA (lnF o a) (lnF o b)).length ≤ 1000 := by
    unfold mgA
    have := List.length_filter_le (newH (lnF o a)) (lnF o b)
    rw [List.length_append]; omega
  rw [ev_blt hl, difH_iff.2 d]
  simp only [Bool.true_and, List.all_eq_true]
  intro h hm
  have key : ∀ l : List Hk, RQ o.length (-1) l → h ∈ l → gNr h.fr = true := fun l r hm => by
    have := RQ_mem r h hm
    unfold gNr
    rw [ev_le_t (by omega), ev_le_t (by omega)]; rfl
  rcases List.mem_append.1 hm with hm | hm
  · exact key _ r1 hm
  · exact key _ r2 ((List.mem_filter.1 hm).1)
theorem Merge_holds : Holds k_Merge := conSSS_of (ks := [k_Lines, k_clH, k_same, k_sort, k_apply]) (hold1 dLines_holds (hold1 clH_holds (hold1 same_holds (hold1 sort_holds (hold1 apply_holds hold0))))) fun o a b g => by
  obtain ⟨ho, ha, hb⟩ := gMg_of g
  obtain ⟨l1, m1⟩ := lnF_facts ho ha
  obtain ⟨l2, m2⟩ := lnF_facts ho hb
  refine Runs.by (merge_e · _ _ _) ?_
  simp only [isSs_e, dSs_e, isHs_e, dHs_e, gL5_t (show o.length ≤ 900000 by omega) (show a.length ≤ 900000 by omega), gL5_t (show o.length ≤ 900000 by omega) (show b.length ≤ 900000 by omega), sm_t (show (lnF o a).length ≤ 1000000 by omega), Bool.and_self, cond_true, eHs_len]
  have := merge_out (base := o) l1 l2 m1 m2 ho (gSt_mgA ho ha hb) (lnF o b).length 0 (by omega) rfl
  rw [show mgA (lnF o a) ((lnF o b).take 0) = lnF o a by simp [mgA]] at this
  exact .go this
end Go.Ab
namespace Go.Ab
open Go.Proofs

def outR (base : List W) (out : List Hk) (o : Option (List Hk)) : List L := [.lst 9 (eSs (rmL base (o.map (out ++ ·)))), .int .i64 (rmE base (o.map (out ++ ·)))]
theorem outR_push (base : List W) (out : List Hk) (x : Hk) (o : Option (List Hk)) : outR base (out ++ [x]) o = outR base out (match o with
    | some l => some (x :: l)
    | none => none) := by
  cases o with
  | none => rfl
  | some l => simp only [outR, Option.map_some, List.append_assoc, List.singleton_append]
theorem eH_dec (x y : Hk) : (x.fr == y.fr && (x.to == y.to && decide (x.ls = y.ls))) = decide (x = y) := by
  obtain ⟨x1, x2, x3⟩ := x
  obtain ⟨y1, y2, y3⟩ := y
  rw [Bool.eq_iff_iff]
  simp
theorem mrgF_nil (f : Nat) (xs : List Hk) : mrgF f xs [] = some xs := by
  cases xs with
  | nil => cases f <;> rfl
  | cons x xs => cases f <;> rfl
theorem mrgF_nil' (f : Nat) (ys : List Hk) : mrgF f [] ys = some ys := by cases f <;> rfl
section
variable {base : List W} {xs ys : List Hk} (hb : base.length ≤ 400) (hll : xs.length ≤ 401) (hml : ys.length ≤ 401) (hls : ∀ h ∈ xs, h.ls.length ≤ 400) (hms : ∀ h ∈ ys, h.ls.length ≤ 400)
include hb hll hml hls hms
theorem rMerge_loop : ∀ (f i j : Nat) (out : List Hk), (xs.length - i) + (ys.length - j) ≤ f → i ≤ xs.length → j ≤ ys.length → out.length ≤ i + j → (∀ h ∈ out, h.ls.length ≤ 400) →
    Runs (cfg [k_rLines, k_shunk, k_rapply]) (rMerge_q4 (eSs base) (i : Nat) (j : Nat) (eHs xs) (eHs ys) (eHs out)) (outR base out (mrgF f (xs.drop i) (ys.drop j)))
  | f, i, j, out, hf, hi, hj, ho, hol => by
    refine Runs.by (rMerge_p4 · _ _ _ _ _ _) ?_
    have ei : (i : Int) + 1 = ((i + 1 : Nat) : Int) := by omega
    have ej : (j : Int) + 1 = ((j + 1 : Nat) : Int) := by omega
    have wi : wrapI .i64 ((i + 1 : Nat) : Int) = ((i + 1 : Nat) : Int) := w64 (by omega) (by omega)
    have wj : wrapI .i64 ((j + 1 : Nat) : Int) = ((j + 1 : Nat) : Int) := w64 (by omega) (by omega)
    have rm : roomN (out.length + 1) 40 = true := roomN_t (by omega) (by omega)
    simp only [eHs_len, ei, ej, wi, wj, rm, isSs_e, dSs_e, isHs_e, dHs_e, Bool.true_and]
    have ge0 : leI 0 (i : Int) = true := ev_le_t (by omega)
    have gj0 : leI 0 (j : Int) = true := ev_le_t (by omega)
    have push : ∀ (g i' j' : Nat) (h : Hk), g < f → (xs.length - i') + (ys.length - j') ≤ g → i' ≤ xs.length → j' ≤ ys.length → out.length + 1 ≤ i' + j' → h.ls.length ≤ 400 →
        Runs (cfg [k_rLines, k_shunk, k_rapply]) (rMerge_q4 (eSs base) (i' : Nat) (j' : Nat) (eHs xs) (eHs ys) (eHs out ++ [eH h])) (outR base (out ++ [h]) (mrgF g (xs.drop i') (ys.drop j'))) := fun g i' j' h hg h1 h2 h3 h4 h5 => by
      have := rMerge_loop g i' j' (out ++ [h]) h1 h2 h3 (by simp; omega) (fun h' hm => by
        rcases List.mem_append.1 hm with hm | hm
        · exact hol h' hm
        · rw [List.mem_singleton.1 hm]; exact h5)
      rw [← eHs_app] at this
      exact this
    by_cases h1 : i < xs.length
    · obtain ⟨f, rfl⟩ : ∃ k, f = k + 1 := ⟨f - 1, by omega⟩
      have lti : ltI (i : Int) (xs.length : Int) = true := ev_lt_t (by omega)
      have nei : ((i : Int) == (xs.length : Int)) = false := ev_eq_f (by omega)
      have hx := eHs_at h1
      have hxl := hls _ (getD_mem default h1)
      have hxd := drop_at (default : Hk) h1
      by_cases h2 : j < ys.length
      · have ltj : ltI (j : Int) (ys.length : Int) = true := ev_lt_t (by omega)
        have nej : ((j : Int) == (ys.length : Int)) = false := ev_eq_f (by omega)
        have hy := eHs_at h2
        have hyl := hms _ (getD_mem default h2)
        have hyd := drop_at (default : Hk) h2
        have px := push f (i + 1) j (xs.getD i default) (by omega) (by omega) (by omega) hj (by omega) hxl
        have py := push f i (j + 1) (ys.getD j default) (by omega) (by omega) hi (by omega) (by omega) hyl
        have pb := push f (i + 1) (j + 1) (xs.getD i default) (by omega) (by omega) (by omega) (by omega) (by omega) hxl
        have hm : mrgF (f + 1) (xs.drop i) (ys.drop j) = if (xs.getD i default).to < (ys.getD j default).fr then match mrgF f (xs.drop (i + 1)) (ys.drop j) with
            | some l => some (xs.getD i default :: l)
            | none => none
          else if (ys.getD j default).to < (xs.getD i default).fr then match mrgF f (xs.drop i) (ys.drop (j + 1)) with
            | some l => some (ys.getD j default :: l)
            | none => none
          else if xs.getD i default = ys.getD j default then match mrgF f (xs.drop (i + 1)) (ys.drop (j + 1)) with
            | some l => some (xs.getD i default :: l)
            | none => none
          else none := by rw [hxd, hyd]; rfl
        rw [hm]
        generalize xs.getD i default = x at *
        generalize ys.getD j default = y at *
        simp only [lti, nei, ltj, nej, ge0, gj0, hx, hy, cI0_e, cI1_e, cX2_e, isSs_e, dSs_e, gLL_t (show x.ls.length ≤ 1000000 by omega) (show y.ls.length ≤ 1000000 by omega), eH_dec, Bool.and_self, cond_true, cond_false]
        by_cases c1 : x.to < y.fr
        · rw [if_pos c1, ev_lt_t c1, ← outR_push]
          exact .go px
        rw [if_neg c1, ev_lt_f (a := x.to) (by omega)]
        by_cases c2 : y.to < x.fr
        · rw [if_pos c2, ev_lt_t c2, ← outR_push]
          exact .go py
        rw [if_neg c2, ev_lt_f (a := y.to) (by omega)]
        by_cases c3 : x = y
        · rw [if_pos c3, decide_eq_true c3, ← outR_push]
          exact .go pb
        · rw [if_neg c3, decide_eq_false c3]
          exact .ret
      · have ltj : ltI (j : Int) (ys.length : Int) = false := ev_lt_f (by omega)
        have nej : ((j : Int) == (ys.length : Int)) = true := ev_eq_t (by omega)
        have px := push f (i + 1) j (xs.getD i default) (by omega) (by omega) (by omega) hj (by omega) hxl
        have e : mrgF (f + 1) (xs.drop i) (ys.drop j) = match mrgF f (xs.drop (i + 1)) (ys.drop j) with
            | some l => some (xs.getD i default :: l)
            | none => none := by
          rw [drop_end (l := ys) (by omega), mrgF_nil, mrgF_nil, hxd]
        rw [e, ← outR_push]
        simp only [lti, nei, ltj, nej, ge0, gj0, hx, cI0_e, cI1_e, cX2_e, Bool.and_self, cond_true, cond_false]
        exact .go px
    · have lti : ltI (i : Int) (xs.length : Int) = false := ev_lt_f (by omega)
      have nei : ((i : Int) == (xs.length : Int)) = true := ev_eq_t (by omega)
      by_cases h2 : j < ys.length
      · obtain ⟨f, rfl⟩ : ∃ k, f = k + 1 := ⟨f - 1, by omega⟩
        have ltj : ltI (j : Int) (ys.length : Int) = true := ev_lt_t (by omega)
        have nej : ((j : Int) == (ys.length : Int)) = false := ev_eq_f (by omega)
        have hy := eHs_at h2
        have hyl := hms _ (getD_mem default h2)
        have hyd := drop_at (default : Hk) h2
        have py := push f i (j + 1) (ys.getD j default) (by omega) (by omega) hi (by omega) (by omega) hyl
        have e : mrgF (f + 1) (xs.drop i) (ys.drop j) = match mrgF f (xs.drop i) (ys.drop (j + 1)) with
            | some l => some (ys.getD j default :: l)
            | none => none := by
          rw [drop_end (l := xs) (by omega), mrgF_nil', mrgF_nil', hyd]
        rw [e, ← outR_push]
        simp only [lti, nei, ltj, nej, ge0, gj0, hy, cI0_e, cI1_e, cX2_e, Bool.and_self, cond_true, cond_false]
        exact .go py
      · have ltj : ltI (j : Int) (ys.length : Int) = false := ev_lt_f (by omega)
        have e : mrgF f (xs.drop i) (ys.drop j) = some [] := by rw [drop_end (l := xs) (by omega), drop_end (l := ys) (by omega), mrgF_nil]
        have ga : gAp base out = true := by
          unfold gAp
          rw [sm_t (by omega), ev_blt (show out.length ≤ 1000 by omega)]
          simp only [Bool.true_and, List.all_eq_true]
          intro h hm
          exact ev_blt (by have := hol h hm; omega)
        rw [e]
        simp only [lti, ltj, ga, cond_true, cond_false]
        exact .ret' (by simp [outR, rmL, rmE])
end
theorem rMerge_holds : Holds k_rMerge := conSSS_of (ks := [k_rLines, k_shunk, k_rapply]) (hold1 rLines_holds (hold1 shunk_holds (hold1 rApply_holds hold0))) fun o a b g => by
  obtain ⟨ho, ha, hb⟩ := gMg_of g
  obtain ⟨l1, m1⟩ := lnF_facts ho ha
  obtain ⟨l2, m2⟩ := lnF_facts ho hb
  refine Runs.by (rMerge_e · _ _ _) ?_
  simp only [isSs_e, dSs_e, gL5_t (show o.length ≤ 900000 by omega) (show a.length ≤ 900000 by omega), gL5_t (show o.length ≤ 900000 by omega) (show b.length ≤ 900000 by omega), Bool.and_self, cond_true]
  have := rMerge_loop (base := o) ho l1 l2 m1 m2 ((lnF o a).length + (lnF o b).length) 0 0 [] (by omega) (by omega) (by omega) (by simp) (fun h hm => by cases hm)
  have e : outR o [] (mrgF ((lnF o a).length + (lnF o b).length) ((lnF o a).drop 0) ((lnF o b).drop 0)) = [.lst 9 (eSs (rmL o (mrg (lnF o a) (lnF o b)))), .int .i64 (rmE o (mrg (lnF o a) (lnF o b)))] := by
    unfold outR mrg
    rw [List.drop_zero, List.drop_zero]
    cases mrgF ((lnF o a).length + (lnF o b).length) (lnF o a) (lnF o b) with
    | none => rfl
    | some l => rfl
  rw [e] at this
  exact .go this
end Go.Ab
namespace Go.Ab
open Go.Proofs
/-! codesearch/diff.Parse -/
noncomputable def dParse_q7 (rows5 : List (List L)) (h0 : List (List L)) : Req := .point 26 [] (todoAt Tryd.prog 26 7) ⟨[an, an, an, an, (.lf (.row 0)), (.lf (.lst 9 rows5)), an, an, an, an, an, an, an, an, an, an, an, an, an, an, an, an, an, an, an, an, an, an, an, an, an, an, an, an, an, an, an, an, an, an, an, an, an, an, an, an, an, an, an, an, an, an, an, an, an, an, an, an, an, an, an, an, an, an, an, an, an, an, an, an, an, an, an, an, an, an, an, an, an, an, an, an, an, an, an, an], [(.row 46 h0 true)]⟩
noncomputable def dParse_q14 (rows5 : List (List L)) (x57 : List (List L)) (x58 : Int) (x59 : Int) (h0 : List (List L)) (h1_0 : Int) (h1_1 : Int) (h1_2 : Int) (h2_0 : Int) (h2_1 : Int) (h3 : List (List L)) : Req := .point 26 [] (todoAt Tryd.prog 26 14) ⟨[an, an, an, an, (.lf (.row 0)), (.lf (.lst 9 rows5)), (.lf (.ptr 1 0)), an, (.lf (.ptr 2 0)), an, an, an, an, an, an, an, an, an, an, an, an, an, an, an, an, an, an, an, an, an, an, an, an, an, an, an, an, an, an, an, an, an, an, an, an, an, an, an, an, an, an, an, an, an, an, an, an, (.lf (.lst 9 x57)), (.lf (.int IntKind.i64 x58)), (.lf (.int IntKind.i64 x59)), an, an, an, an, an, an, an, an, an, an, an, an, an, an, an, an, an, an, an, an, an, an, an, an, an, an], [(.row 46 h0 true), (.box [(.int IntKind.i64), (.int IntKind.i64), (.int IntKind.i64)] [(.int IntKind.i64 h1_0), (.int IntKind.i64 h1_1), (.int IntKind.i64 h1_2)]), (.box [(.int IntKind.i64), (.int IntKind.i64), (.sl 9)] [(.int IntKind.i64 h2_0), (.int IntKind.i64 h2_1), (.row 3)]), (.row 9 h3 true)]⟩
theorem dParse_e (G : Req → R) (s0 : ByteArray) : runB (cfg [k_head, k_Split, k_hasP, k_right]) G (.enter 26 [(.lf (.str (s0)))] []) =
  (cond (bl s0 == bl (mk []))
   (some [(.lst 46 []), (.int IntKind.i64 (0))])
   (cond (leI 0 (wrapI IntKind.i64 ((↑(ByteArray.size s0) : Int) - 1)) && ltI (wrapI IntKind.i64 ((↑(ByteArray.size s0) : Int) - 1)) (↑(ByteArray.size s0) : Int))
    (cond (byI s0 (wrapI IntKind.i64 ((↑(ByteArray.size s0) : Int) - 1)) != 10)
     (some [(.lst 46 []), (.int IntKind.i64 (3))])
     (cond (leI 0 (wrapI IntKind.i64 ((↑(ByteArray.size s0) : Int) - 1)) && leI (wrapI IntKind.i64 ((↑(ByteArray.size s0) : Int) - 1)) (↑(ByteArray.size s0) : Int))
      (cond (Nat.ble (ByteArray.size (ByteArray.extract s0 0 (Int.toNat (wrapI IntKind.i64 ((↑(ByteArray.size s0) : Int) - 1))))) 1000000000 && true)
       (G (dParse_q7 (eSs (spl (List.getD (bl (mk [10])) 0 0) (bl (ByteArray.extract s0 0 (Int.toNat (wrapI IntKind.i64 ((↑(ByteArray.size s0) : Int) - 1))))))) []))
       none)
      none))
    none)) := by kernel_rfl
theorem dParse_p7 (G : Req → R) (rows5 : List (List L)) (h0 : List (List L)) : runB (cfg [k_head, k_Split, k_hasP, k_right]) G (dParse_q7 rows5 h0) =
  (cond (ltI 0 (↑(List.length rows5) : Int))
   (cond (ltI 0 (↑(List.length rows5) : Int))
    (cond (sm (List.length (bl (cT 0 (atL rows5 0)))))
     (cond (leI 1 (↑(List.length rows5) : Int))
      (cond (!hdOk (bl (cT 0 (atL rows5 0))) 3)
       (some [(.lst 46 []), (.int IntKind.i64 (3))])
       (cond (ltI (↑(List.length (List.drop 1 (List.take (List.length rows5) rows5))) : Int) (hdV (bl (cT 0 (atL rows5 0))) 2))
        (some [(.lst 46 []), (.int IntKind.i64 (3))])
        (cond (leI 0 (hdV (bl (cT 0 (atL rows5 0))) 2) && leI (hdV (bl (cT 0 (atL rows5 0))) 2) (↑(List.length (List.drop 1 (List.take (List.length rows5) rows5))) : Int))
         (G (dParse_q14 (List.drop 1 (List.take (List.length rows5) rows5)) (List.drop 0 (List.take (Int.toNat (hdV (bl (cT 0 (atL rows5 0))) 2)) (List.drop 1 (List.take (List.length rows5) rows5)))) ((↑(List.length (List.drop 0 (List.take (Int.toNat (hdV (bl (cT 0 (atL rows5 0))) 2)) (List.drop 1 (List.take (List.length rows5) rows5))))) : Int)) 0 h0 (hdV (bl (cT 0 (atL rows5 0))) 0) (hdV (bl (cT 0 (atL rows5 0))) 1) (hdV (bl (cT 0 (atL rows5 0))) 2) (hdV (bl (cT 0 (atL rows5 0))) 0) (wrapI IntKind.i64 (hdV (bl (cT 0 (atL rows5 0))) 0 + hdV (bl (cT 0 (atL rows5 0))) 1)) []))
         none)))
      none)
     none)
    none)
   (cond (isHs h0 && sm (List.length (dHs h0)))
    (cond (rightF (dHs h0) 2000 != 0)
     (some [(.lst 46 []), (.int IntKind.i64 (3))])
     (some [(.lst 46 h0), (.int IntKind.i64 (0))]))
    none)) := by kernel_rfl
theorem dParse_p14 (G : Req → R) (rows5 : List (List L)) (x57 : List (List L)) (x58 : Int) (x59 : Int) (h0 : List (List L)) (h1_0 : Int) (h1_1 : Int) (h1_2 : Int) (h2_0 : Int) (h2_1 : Int) (h3 : List (List L)) : runB (cfg [k_head, k_Split, k_hasP, k_right]) G (dParse_q14 rows5 x57 x58 x59 h0 h1_0 h1_1 h1_2 h2_0 h2_1 h3) =
  (cond (ltI x59 x58)
   (cond (leI 0 x59 && ltI x59 (↑(List.length x57) : Int))
    (cond (Nat.ble (ByteArray.size (cT 0 (atL x57 x59))) 1000000000 && true)
     (cond (!List.isPrefixOf (bl (mk [43])) (bl (cT 0 (atL x57 x59))))
      (some [(.lst 46 []), (.int IntKind.i64 (3))])
      (cond (leI 1 (↑(ByteArray.size (cT 0 (atL x57 x59))) : Int))
       (cond (roomN (List.length h3 + 1) 16)
        (G (dParse_q14 rows5 x57 x58 (wrapI IntKind.i64 (x59 + 1)) h0 h1_0 h1_1 h1_2 h2_0 h2_1 (h3 ++ [[L.str (ByteArray.extract (cT 0 (atL x57 x59)) 1 (ByteArray.size (cT 0 (atL x57 x59))))]])))
        none)
       none))
     none)
    none)
   (cond (leI 0 h1_2 && leI h1_2 (↑(List.length rows5) : Int))
    (cond (roomN (List.length h0 + 1) 40)
     (G (dParse_q7 (List.drop (Int.toNat h1_2) (List.take (List.length rows5) rows5)) (h0 ++ [[L.int IntKind.i64 h2_0, L.int IntKind.i64 h2_1, L.lst 9 h3]])))
     none)
    none)) := by kernel_rfl

/-! codesearch/codesearchref23.hunk -/
noncomputable def rhunk_q14 (s0 : ByteArray) (inserted10 : Int) (m11 : Int) (n13 : Int) (h0_0 : Int) (h0_1 : Int) (h1_0 : Int) (h1_1 : Int) (h2 : List (List L)) (h3 : List (List L)) : Req := .point 53 [] (todoAt Tryd.prog 53 14) ⟨[(.lf (.str s0)), an, an, an, (.lf (.ptr 0 0)), an, an, an, an, an, (.lf (.int IntKind.i64 inserted10)), (.lf (.int IntKind.i64 m11)), (.lf (.ptr 1 0)), (.lf (.int IntKind.i64 n13)), an, an, an, an, an, an, an, an, an, an, an, an, an, an, an, an, an, an, an, an, an, an, an, an, an, an, an, an, an, an, an, an, an, an, an, an, an, an, an, an, an, an, an, an, an, an, an, an, an, an, an, an, an, an, an, an, an, an, an, an, an, an, an, an, an, an, an, an, an, an, an, an, an, an, an, an, an, an, an, an, an, an, an, an, an, an], [(.box [(.int IntKind.i64), (.int IntKind.i64), (.sl 9)] [(.int IntKind.i64 h0_0), (.int IntKind.i64 h0_1), (.row 2)]), (.box [(.int IntKind.i64), (.int IntKind.i64), (.sl 9)] [(.int IntKind.i64 h1_0), (.int IntKind.i64 h1_1), (.row 3)]), (.row 9 h2 true), (.row 9 h3 true)]⟩
theorem rhunk_e (G : Req → R) (s0 : ByteArray) (at1 : Int) : runB (cfg [k_rnum, k_line]) G (.enter 53 [(.lf (.str (s0))), (.lf (.int IntKind.i64 (at1)))] []) =
  (cond (leI (↑(ByteArray.size s0) : Int) at1)
   (some [(.int IntKind.i64 (0)), (.int IntKind.i64 (0)), (.lst 9 []), (.int IntKind.i64 (-1))])
   (cond (leI 0 at1 && ltI at1 (↑(ByteArray.size s0) : Int))
    (cond (byI s0 at1 != 64)
     (some [(.int IntKind.i64 (0)), (.int IntKind.i64 (0)), (.lst 9 []), (.int IntKind.i64 (-1))])
     (cond (gRn (bl s0) (wrapI IntKind.i64 (at1 + 1)))
      (cond (ltI (rnI (bl s0) (wrapI IntKind.i64 (at1 + 1)) 32) 0)
       (some [(.int IntKind.i64 (0)), (.int IntKind.i64 (0)), (.lst 9 []), (.int IntKind.i64 (-1))])
       (cond (gRn (bl s0) (rnI (bl s0) (wrapI IntKind.i64 (at1 + 1)) 32))
        (cond (ltI (rnI (bl s0) (rnI (bl s0) (wrapI IntKind.i64 (at1 + 1)) 32) 32) 0)
         (some [(.int IntKind.i64 (0)), (.int IntKind.i64 (0)), (.lst 9 []), (.int IntKind.i64 (-1))])
         (cond (gRn (bl s0) (rnI (bl s0) (rnI (bl s0) (wrapI IntKind.i64 (at1 + 1)) 32) 32))
          (cond (ltI (rnI (bl s0) (rnI (bl s0) (rnI (bl s0) (wrapI IntKind.i64 (at1 + 1)) 32) 32) 10) 0)
           (some [(.int IntKind.i64 (0)), (.int IntKind.i64 (0)), (.lst 9 []), (.int IntKind.i64 (-1))])
           (G (rhunk_q14 s0 (rnV (bl s0) (rnI (bl s0) (rnI (bl s0) (wrapI IntKind.i64 (at1 + 1)) 32) 32) 10) (rnI (bl s0) (rnI (bl s0) (rnI (bl s0) (wrapI IntKind.i64 (at1 + 1)) 32) 32) 10) 0 0 0 (rnV (bl s0) (wrapI IntKind.i64 (at1 + 1)) 32) (wrapI IntKind.i64 (rnV (bl s0) (wrapI IntKind.i64 (at1 + 1)) 32 + rnV (bl s0) (rnI (bl s0) (wrapI IntKind.i64 (at1 + 1)) 32) 32)) [] [])))
          none))
        none))
      none))
    none)) := by kernel_rfl
theorem rhunk_p14 (G : Req → R) (s0 : ByteArray) (inserted10 : Int) (m11 : Int) (n13 : Int) (h0_0 : Int) (h0_1 : Int) (h1_0 : Int) (h1_1 : Int) (h2 : List (List L)) (h3 : List (List L)) : runB (cfg [k_rnum, k_line]) G (rhunk_q14 s0 inserted10 m11 n13 h0_0 h0_1 h1_0 h1_1 h2 h3) =
  (cond (ltI n13 inserted10)
   (cond (leI (↑(ByteArray.size s0) : Int) m11)
    (some [(.int IntKind.i64 (0)), (.int IntKind.i64 (0)), (.lst 9 []), (.int IntKind.i64 (-1))])
    (cond (leI 0 m11 && ltI m11 (↑(ByteArray.size s0) : Int))
     (cond (byI s0 m11 != 43)
      (some [(.int IntKind.i64 (0)), (.int IntKind.i64 (0)), (.lst 9 []), (.int IntKind.i64 (-1))])
      (cond (gRn (bl s0) m11)
       (cond (lnE (bl s0) m11 == (↑(ByteArray.size s0) : Int))
        (some [(.int IntKind.i64 (0)), (.int IntKind.i64 (0)), (.lst 9 []), (.int IntKind.i64 (-1))])
        (dupN 1
         (cond (gRn (bl s0) m11)
          (cond (leI 0 (lnE (bl s0) m11) && leI (lnE (bl s0) m11) (↑(ByteArray.size s0) : Int) && (leI 0 (wrapI IntKind.i64 (m11 + 1)) && leI (wrapI IntKind.i64 (m11 + 1)) (↑(Int.toNat (lnE (bl s0) m11)) : Int)))
           (cond (roomN (List.length h3 + 1) 16)
            (cond (gRn (bl s0) m11)
             (G (rhunk_q14 s0 inserted10 (wrapI IntKind.i64 (lnE (bl s0) m11 + 1)) (wrapI IntKind.i64 (n13 + 1)) h0_0 h0_1 h1_0 h1_1 h2 (h3 ++ [[L.str (ByteArray.extract s0 (Int.toNat (wrapI IntKind.i64 (m11 + 1))) (Int.toNat (lnE (bl s0) m11)))]])))
             none)
            none)
           none)
          none)))
       none))
     none))
   (some [(.int IntKind.i64 (h1_0)), (.int IntKind.i64 (h1_1)), (.lst 9 h3), (.int IntKind.i64 (m11))])) := by kernel_rfl

/-! codesearch/codesearchref23.Parse -/
noncomputable def rParse_q3 (s0 : ByteArray) (at5 : Int) (h0 : List (List L)) : Req := .point 27 [] (todoAt Tryd.prog 27 3) ⟨[(.lf (.str s0)), an, an, an, (.lf (.row 0)), (.lf (.int IntKind.i64 at5)), an, an, an, an, an, an, an, an, an, an, an, an, an, an, an, an, an, an, an, an, an, an, an, an, an, an, an, an, an, an], [(.row 46 h0 true)]⟩
theorem rParse_e (G : Req → R) (s0 : ByteArray) : runB (cfg [k_rhunk, k_rright, k_rPrint]) G (.enter 27 [(.lf (.str (s0)))] []) =
  (G (rParse_q3 s0 0 [])) := by kernel_rfl
theorem rParse_p3 (G : Req → R) (s0 : ByteArray) (at5 : Int) (h0 : List (List L)) : runB (cfg [k_rhunk, k_rright, k_rPrint]) G (rParse_q3 s0 at5 h0) =
  (cond (ltI at5 (↑(ByteArray.size s0) : Int))
   (cond (gRn (bl s0) at5)
    (cond (ltI (rhI (bl s0) (List.drop (Int.toNat at5) (bl s0))) 0)
     (some [(.lst 46 []), (.int IntKind.i64 (3))])
     (cond (roomN (List.length h0 + 1) 40)
      (G (rParse_q3 s0 (rhI (bl s0) (List.drop (Int.toNat at5) (bl s0))) (h0 ++ [[L.int IntKind.i64 (Hk.fr (rhH (List.drop (Int.toNat at5) (bl s0)))), L.int IntKind.i64 (Hk.to (rhH (List.drop (Int.toNat at5) (bl s0)))), L.lst 9 (eSs (Hk.ls (rhH (List.drop (Int.toNat at5) (bl s0)))))]])))
      none))
    none)
   (cond (isHs h0 && sm (List.length (dHs h0)))
    (cond (rightF (dHs h0) 2000 != 0)
     (some [(.lst 46 []), (.int IntKind.i64 (3))])
     (cond (isHs h0 && prOk (dHs h0))
      (cond (!bl (mk (prF (dHs h0))) == bl s0)
       (some [(.lst 46 []), (.int IntKind.i64 (3))])
       (some [(.lst 46 h0), (.int IntKind.i64 (0))]))
      none))
    none)) := by kernel_rfl

end Go.Ab
namespace Go.Ab
open Go.Proofs

theorem foldN_lt : ∀ (l : W) (n : Nat), l.all isDg = true → l.foldl stepN n + 1 ≤ (n + 1) * 10 ^ l.length
  | [], n, _ => by simp
  | c :: l, n, h => by
    rw [List.all_cons, Bool.and_eq_true] at h
    have ih := foldN_lt l (stepN n c) h.2
    have hc := h.1
    rw [isDg_eq, decide_eq_true_eq] at hc
    rw [List.foldl_cons, List.length_cons, Nat.pow_succ]
    have h2 : stepN n c + 1 ≤ (n + 1) * 10 := by unfold stepN; omega
    calc _ ≤ _ := ih
      _ ≤ (n + 1) * 10 * 10 ^ l.length := Nat.mul_le_mul_right _ h2
      _ = _ := by rw [Nat.mul_assoc, Nat.mul_comm 10]
theorem numR_b (s : W) : 0 ≤ numR s ∧ numR s ≤ 999999999 := by
  unfold numR
  cases h : numOk s
  · exact ⟨by show (0 : Int) ≤ 0; omega, by show (0 : Int) ≤ 999999999; omega⟩
  · unfold numOk at h
    simp only [Bool.and_eq_true] at h
    have h1 := Nat.le_of_ble_eq_true h.2.1
    have h2 := foldN_lt s 0 h.2.2.2
    have hp : 10 ^ s.length ≤ 10 ^ 9 := Nat.pow_le_pow_right (by decide) h1
    have hp' : (10 : Nat) ^ 9 = 1000000000 := by decide
    rw [← numV_eq] at h2
    rw [hp'] at hp
    simp only [cond_true]
    omega
theorem hdV_b (s : W) (k : Nat) : 0 ≤ hdV s k ∧ hdV s k ≤ 999999999 := by
  unfold hdV
  cases hdOk s (k + 1)
  · exact ⟨by show (0 : Int) ≤ 0; omega, by show (0 : Int) ≤ 999999999; omega⟩
  · exact numR_b _
theorem plus_cons (r : W) (rows : List W) : plusAll (r :: rows) = (([43] : W).isPrefixOf r && plusAll rows) := rfl
abbrev failP : List L := [.lst 46 [], .int .i64 3]

section
theorem dPar_in (rows : List W) (hr : rows.length ≤ 1000000) (xs : List W) (hx : ∀ w ∈ xs, w.length ≤ 1000000) (hxl : xs.length ≤ 1000000) (h0 : List (List L)) (hh : h0.length ≤ 1000000) (a b : Int) (c : Nat) (hc : c ≤ rows.length) (fr to : Int) (T : List L) :
    ∀ (m t : Nat) (acc : List W), t + m = xs.length → acc.length = t → (plusAll (xs.drop t) = false → T = failP) →
      (plusAll (xs.drop t) = true → Runs (cfg [k_head, k_Split, k_hasP, k_right]) (dParse_q7 (eSs (rows.drop c)) (h0 ++ [[.int .i64 fr, .int .i64 to, .lst 9 (eSs (acc ++ (xs.drop t).map (·.drop 1)))]])) T) →
      Runs (cfg [k_head, k_Split, k_hasP, k_right]) (dParse_q14 (eSs rows) (eSs xs) (xs.length : Nat) (t : Nat) h0 a b (c : Nat) fr to (eSs acc)) T
  | 0, t, acc, h, hl, hf, ht => by
    refine Runs.by (dParse_p14 · _ _ _ _ _ _ _ _ _ _ _) ?_
    rw [drop_end (by omega)] at ht
    simp (disch := omega) only [ev_lt_f, cond_false, eSs_len, ev_le_t, Bool.and_self, cond_true, roomN_t, Int.toNat_natCast, List.take_length, eSs_take, eSs_drop]
    simp only [List.map_nil, List.append_nil] at ht
    exact .go (ht rfl)
  | m + 1, t, acc, h, hl, hf, ht => by
    have hk : t < xs.length := by omega
    have hwk := hx _ (getD_mem [] hk)
    rw [drop_at ([] : W) hk, plus_cons] at hf ht
    refine Runs.by (dParse_p14 · _ _ _ _ _ _ _ _ _ _ _) ?_
    simp (disch := omega) only [eSs_len, ev_lt_t, ev_le_t, Bool.and_self, cond_true, eSs_at, cT_e, size_mk, bl_mk, ext_mk, ev_blt, List.take_length]
    by_cases hp : ([43] : W).isPrefixOf (xs.getD t []) = true
    · rw [hp] at hf ht ⊢
      have hle := isPre_len _ _ hp
      simp only [List.length_singleton] at hle
      simp (disch := omega) only [ev_le_t, roomN_t, w64]
      refine .go ?_
      have e : eSs acc ++ [[L.str (mk ((xs.getD t []).drop 1))]] = eSs (acc ++ [(xs.getD t []).drop 1]) := by
        rw [← eSs_app]; rfl
      have e2 : ((t : Int) + 1) = ((t + 1 : Nat) : Int) := by omega
      rw [e, e2]
      refine dPar_in rows hr xs hx hxl h0 hh a b c hc fr to T m (t + 1) _ (by omega) (by simp; omega) (fun hq => hf (by rw [hq]; rfl)) (fun hq => ?_)
      have := ht (by rw [hq]; rfl)
      simpa [List.append_assoc] using this
    · have hp' : ([43] : W).isPrefixOf (xs.getD t []) = false := Bool.eq_false_iff.2 hp
      rw [hp'] at hf ⊢
      rw [hf rfl]
      exact .ret
def parOut (hs : List Hk) : Option (List Hk) → List L
  | none => failP
  | some l => cond (rightF (hs ++ l) 2000 == 0) [.lst 46 (eHs (hs ++ l)), .int .i64 0] failP
theorem dPar_out : ∀ (f : Nat) (rows : List W) (hs : List Hk), rows.length ≤ f → rows.length + hs.length ≤ 1000000 → (∀ w ∈ rows, w.length ≤ 1000000) →
    Runs (cfg [k_head, k_Split, k_hasP, k_right]) (dParse_q7 (eSs rows) (eHs hs)) (parOut hs (parL f rows))
  | f, [], hs, h, hl, hw => by
    refine Runs.by (dParse_p7 · _ _) ?_
    have hsm : sm hs.length = true := sm_t (by simp at hl; omega)
    have e : parL f [] = some [] := by cases f <;> rfl
    rw [e]
    show RunsF _ (fun G => cond (isHs (eHs hs) && sm (dHs (eHs hs)).length) (cond (rightF (dHs (eHs hs)) 2000 != 0) (some failP) (some [.lst 46 (eHs hs), .int .i64 0])) none) _
    rw [isHs_e, dHs_e, hsm]
    simp only [parOut, List.append_nil, Bool.and_self, cond_true]
    by_cases hr : rightF hs 2000 = 0
    · rw [ev_ne_f hr, ev_eq_t hr]; exact .ret
    · rw [ev_ne_t hr, ev_eq_f hr]; exact .ret
  | 0, r :: rows, hs, h, hl, hw => by simp at h
  | f + 1, r :: rows, hs, h, hl, hw => by
    simp only [List.length_cons] at h hl
    have hr := hw r (List.mem_cons_self ..)
    have hws : ∀ w ∈ rows, w.length ≤ 1000000 := fun w h => hw w (List.mem_cons_of_mem _ h)
    obtain ⟨v0a, v0b⟩ := hdV_b r 0
    obtain ⟨v1a, v1b⟩ := hdV_b r 1
    obtain ⟨v2a, v2b⟩ := hdV_b r 2
    obtain ⟨c, hc⟩ := Int.eq_ofNat_of_zero_le v2a
    refine Runs.by (dParse_p7 · _ _) ?_
    have a0 : atL (eSs (r :: rows)) 0 = eS r := rfl
    have hlen : (eSs (r :: rows)).length = rows.length + 1 := by simp [eSs]
    have htd : List.drop 1 (List.take (rows.length + 1) (eSs (r :: rows))) = eSs rows := by
      show List.take rows.length (eSs rows) = _
      rw [← eSs_len rows, List.take_length]
    rw [parL, hc]
    simp (disch := omega) only [hlen, htd, a0, cT_e, bl_mk, eSs_len, ev_lt_t, ev_le_t, cond_true, sm_t, Int.toNat_natCast, hc]
    by_cases ho : hdOk r 3 = true
    case neg =>
      have ho' : hdOk r 3 = false := Bool.eq_false_iff.2 ho
      rw [if_neg (fun h => ho h.1), ho']
      exact .ret
    rw [ho]
    by_cases hcl : c ≤ rows.length
    case neg =>
      rw [if_neg (fun h => by have := h.2.1; omega), ev_lt_t (by omega)]
      exact .ret
    rw [ev_lt_f (by omega), ev_le_t (by omega)]
    have hxl : (rows.take c).length = c := by rw [List.length_take]; omega
    rw [eSs_take, List.drop_zero, eSs_len, w64 (by omega) (by omega)]
    refine .go ?_
    rw [hxl]
    have ih : ∀ hs' : List Hk, rows.length - c + hs'.length ≤ 1000000 → Runs (cfg [k_head, k_Split, k_hasP, k_right]) (dParse_q7 (eSs (rows.drop c)) (eHs hs')) (parOut hs' (parL f (rows.drop c))) := fun hs' hl' => dPar_out f (rows.drop c) hs' (by rw [List.length_drop]; omega) (by rw [List.length_drop]; exact hl') (fun w h => hws w (List.mem_of_mem_drop h))
    have I := dPar_in rows (by omega) (rows.take c) (fun w h => hws w (List.mem_of_mem_take h)) (by omega) (eHs hs) (by rw [eHs_len]; omega) (hdV r 0) (hdV r 1) c hcl (hdV r 0) (hdV r 0 + hdV r 1)
      (parOut hs (if true = true ∧ (c : Int) ≤ (rows.length : Nat) ∧ plusAll (rows.take c) = true then
        match parL f (rows.drop c) with
        | some l => some (⟨hdV r 0, hdV r 0 + hdV r 1, (rows.take c).map (·.drop 1)⟩ :: l)
        | none => none
      else none)) c 0 [] (by omega) rfl (fun hp => by
        rw [List.drop_zero] at hp
        rw [if_neg (fun h => by rw [hp] at h; cases h.2.2)]
        rfl) (fun hp => by
        rw [List.drop_zero] at hp
        rw [if_pos ⟨rfl, by omega, hp⟩]
        have e : eHs hs ++ [[L.int .i64 (hdV r 0), .int .i64 (hdV r 0 + hdV r 1), .lst 9 (eSs ([] ++ ((rows.take c).drop 0).map (·.drop 1)))]] = eHs (hs ++ [⟨hdV r 0, hdV r 0 + hdV r 1, (rows.take c).map (·.drop 1)⟩]) := by
          rw [← eHs_app]; rfl
        rw [e]
        have ih' := ih (hs ++ [⟨hdV r 0, hdV r 0 + hdV r 1, (rows.take c).map (·.drop 1)⟩]) (by simp; omega)
        have e2 : parOut (hs ++ [⟨hdV r 0, hdV r 0 + hdV r 1, (rows.take c).map (·.drop 1)⟩]) (parL f (rows.drop c)) = parOut hs (match parL f (rows.drop c) with
          | some l => some (⟨hdV r 0, hdV r 0 + hdV r 1, (rows.take c).map (·.drop 1)⟩ :: l)
          | none => none) := by
          cases parL f (rows.drop c) with
          | none => rfl
          | some l => simp only [parOut, List.append_assoc, List.singleton_append]
        rw [← e2]
        exact ih')
    rw [hxl] at I
    exact I
end
theorem parR_out (s : W) (o : Option (List Hk)) (h : parR s = match o with | some l => if rightF l 2000 = 0 then some l else none | none => none) : parOut [] o = [.lst 46 (eHs ((parR s).getD [])), .int .i64 (cond (parR s).isSome 0 3)] := by
  rw [h]
  cases o with
  | none => rfl
  | some l =>
    simp only [parOut, List.nil_append]
    by_cases hr : rightF l 2000 = 0
    · simp only [hr, if_true]; rfl
    · simp only [hr, if_false, ev_eq_f hr]; rfl
theorem dParse_holds : Holds k_dParse := conT_of (ks := [k_head, k_Split, k_hasP, k_right]) (hold1 head_holds (hold1 Split_holds (hold1 hasP_holds (hold1 right_holds hold0)))) fun s g => by
  have hs := sm_of g
  refine Runs.by (dParse_e · _) ?_
  by_cases h0 : s = []
  · subst h0
    exact .ret
  have hpos : 0 < s.length := List.length_pos_iff.2 h0
  have e0 : (bl (mk s) == bl (mk [])) = false := by
    rw [bl_mk, bl_mk, beq_eq_false_iff_ne]; exact h0
  have e1 : ((s.length : Int) - 1) = ((s.length - 1 : Nat) : Int) := by omega
  rw [e0]
  simp (disch := omega) only [cond_false, size_mk, e1, w64, ev_le_t, ev_lt_t, Bool.and_self, cond_true, byI_mk, Int.toNat_natCast, ext_mk, List.length_take, ev_blt, bl_mk, List.drop_zero]
  have hg : List.getD ([10] : W) 0 0 = 10 := rfl
  rw [hg]
  by_cases hl : (s.getD (s.length - 1) 0).toNat = 10
  · rw [ev_ne_f (by omega)]
    have hr : parR s = match parL (spl 10 (s.take (s.length - 1))).length (spl 10 (s.take (s.length - 1))) with | some l => if rightF l 2000 = 0 then some l else none | none => none := by
      unfold parR
      rw [if_neg h0, if_pos hl]
      rfl
    rw [← parR_out s _ hr]
    have hsl : ∀ (c : UInt8) (l : W), (spl c l).length ≤ l.length + 1 := by
      intro c l
      induction l with
      | nil => simp [spl]
      | cons x l ih =>
        rw [spl]
        split
        · simp; omega
        · split
          · simp
          · rename_i h1
            rw [h1] at ih
            simp at ih ⊢; omega
    have h1 := hsl 10 (s.take (s.length - 1))
    rw [List.length_take] at h1
    have := dPar_out (spl 10 (s.take (s.length - 1))).length (spl 10 (s.take (s.length - 1))) [] (Nat.le_refl _) (by simp; omega) (fun w hw => by
      have := spl_len _ _ _ hw
      rw [List.length_take] at this
      omega)
    exact .go this
  · rw [ev_ne_t (by omega)]
    have hr : parR s = none := by
      unfold parR
      rw [if_neg h0, if_neg hl]
    rw [hr]
    exact .ret
end Go.Ab
namespace Go.Ab
open Go.Proofs

theorem dgs_sub (l : W) : (dgs l).length ≤ 9 ∧ (dgs l).length ≤ l.length := by
  have h := (List.takeWhile_sublist (p := isDg) (l := l.take 9)).length_le
  rw [List.length_take] at h
  unfold dgs
  omega
theorem dgs_all (l : W) : (dgs l).all isDg = true := by
  unfold dgs
  generalize l.take 9 = t
  induction t with
  | nil => rfl
  | cons c t ih =>
    rw [List.takeWhile_cons]
    split
    · rename_i h
      rw [List.all_cons, h, ih]; rfl
    · rfl
theorem dgs_v (l : W) : numV (dgs l) ≤ 999999999 := by
  have h2 := foldN_lt (dgs l) 0 (dgs_all l)
  have hp : 10 ^ (dgs l).length ≤ 10 ^ 9 := Nat.pow_le_pow_right (by decide) (dgs_sub l).1
  have hp' : (10 : Nat) ^ 9 = 1000000000 := by decide
  rw [← numV_eq] at h2
  rw [hp'] at hp
  omega
theorem rn_step (s : W) {i : Nat} (hi : i ≤ s.length) (e : Int) : (rnI s i e = -1 ∧ rn (s.drop i) e = none) ∨ ∃ v j : Nat, rnI s i e = j ∧ rnV s i e = v ∧ i < j ∧ j ≤ s.length ∧ v ≤ 999999999 ∧ rn (s.drop i) e = some (v, s.drop j) := by
  unfold rnI rnV rn
  rw [Int.toNat_natCast]
  by_cases h : rnumOk (s.drop i) e = true
  · right
    have h2 := h
    unfold rnumOk at h2
    simp only [Bool.and_eq_true] at h2
    have h3 := h2.2.1
    unfold Nat.blt at h3
    have h3 := Nat.le_of_ble_eq_true h3
    rw [List.length_drop] at h3
    refine ⟨numV (dgs (s.drop i)), i + ((dgs (s.drop i)).length + 1), ?_, ?_, by omega, by omega, dgs_v _, ?_⟩
    · rw [h]; simp only [cond_true]; omega
    · rw [h]; rfl
    · rw [if_pos h, List.drop_drop]
  · left
    rw [if_neg h, Bool.eq_false_iff.2 h]
    exact ⟨rfl, rfl⟩
theorem lnW_len (l : W) : (lnW l).length ≤ l.length := (List.takeWhile_sublist (p := fun c : UInt8 => !(c.toNat == 10)) (l := l)).length_le
theorem lnW_take (l : W) : l.take (lnW l).length = lnW l := by
  unfold lnW
  induction l with
  | nil => rfl
  | cons c l ih =>
    rw [List.takeWhile_cons]
    split
    · rw [List.length_cons, List.take_succ_cons, ih]
    · rfl
theorem lnW_ext (s : W) (m : Nat) : (s.take (m + (lnW (s.drop m)).length)).drop (m + 1) = (lnW (s.drop m)).drop 1 := by
  rw [← List.drop_drop, List.drop_take, Nat.add_sub_cancel_left, lnW_take]
abbrev failH : List L := [.int .i64 0, .int .i64 0, .lst 9 [], .int .i64 (-1)]
theorem gRn_t {s : W} {i : Nat} (hs : s.length ≤ 1000000) (hi : i ≤ s.length) : gRn s (i : Int) = true := by
  unfold gRn
  rw [sm_t hs, ev_le_t (by omega), ev_le_t (by omega)]; rfl
theorem lnE_eq (s : W) (m : Nat) : lnE s (m : Int) = ((m + (lnW (s.drop m)).length : Nat) : Int) := by
  unfold lnE
  rw [Int.toNat_natCast]; omega
theorem rhunk_in (s : W) (hs : s.length ≤ 1000000) (cnt : Nat) (hcnt : cnt ≤ 999999999) (fr to : Int) (T : List L) : ∀ (k n m : Nat) (acc : List W), n + k = cnt → m ≤ s.length → acc.length = n →
    (rls k (s.drop m) = none → T = failH) → (∀ ls r, rls k (s.drop m) = some (ls, r) → T = [.int .i64 fr, .int .i64 to, .lst 9 (eSs (acc ++ ls)), .int .i64 ((s.length - r.length : Nat) : Int)]) →
    Runs (cfg [k_rnum, k_line]) (rhunk_q14 (mk s) (cnt : Nat) (m : Nat) (n : Nat) 0 0 fr to [] (eSs acc)) T
  | 0, n, m, acc, h, hm, hl, hf, ht => by
    refine Runs.by (rhunk_p14 · _ _ _ _ _ _ _ _ _ _) ?_
    have e := ht [] (s.drop m) rfl
    rw [List.append_nil, List.length_drop, show s.length - (s.length - m) = m by omega] at e
    rw [e, ev_lt_f (by omega)]
    exact .ret
  | k + 1, n, m, acc, h, hm, hl, hf, ht => by
    refine Runs.by (rhunk_p14 · _ _ _ _ _ _ _ _ _ _) ?_
    rw [ev_lt_t (a := (n : Int)) (by omega)]
    simp only [size_mk, bl_mk]
    by_cases hm' : m = s.length
    · rw [drop_end (by omega)] at hf
      rw [hf rfl, ev_le_t (a := (s.length : Int)) (by omega)]
      exact .ret
    rw [ev_le_f (b := (m : Int)) (by omega), ev_le_t (a := 0) (b := (m : Int)) (by omega), ev_lt_t (a := (m : Int)) (by omega), byI_mk, gRn_t hs hm, lnE_eq]
    have hd := drop_at (0 : UInt8) (l := s) (i := m) (by omega)
    have hle := lnW_len (s.drop m)
    have hext := lnW_ext s m
    have hdl : (s.drop m).length = s.length - m := List.length_drop ..
    have hrls : rls (k + 1) (s.drop m) = if (s.getD m 0).toNat = 43 ∧ (lnW (s.drop m)).length < (s.drop m).length then
        match rls k ((s.drop m).drop ((lnW (s.drop m)).length + 1)) with
        | some (ls, r) => some ((lnW (s.drop m)).drop 1 :: ls, r)
        | none => none
      else none := by
      rw [hd]; rfl
    by_cases h43 : (s.getD m 0).toNat = 43
    case neg =>
      rw [if_neg (fun h => h43 h.1)] at hrls
      rw [hf hrls, ev_ne_t (by omega)]
      exact .ret
    rw [ev_ne_f (a := ((s.getD m 0).toNat : Int)) (by omega)]
    by_cases hln : m + (lnW (s.drop m)).length = s.length
    · rw [if_neg (fun h => by have := h.2; omega)] at hrls
      rw [hf hrls, ev_eq_t (by omega)]
      exact .ret
    rw [if_pos ⟨h43, by omega⟩, List.drop_drop] at hrls
    have hpos : 1 ≤ (lnW (s.drop m)).length := by
      rw [hd]
      unfold lnW
      have h10 : (!((s.getD m 0).toNat == 10)) = true := by rw [h43]; rfl
      rw [List.takeWhile_cons, if_pos h10, List.length_cons]
      omega
    rw [ev_eq_f (by omega), ev_le_t (a := 0) (by omega), ev_le_t (a := ((m + (lnW (s.drop m)).length : Nat) : Int)) (by omega)]
    rw [w64 (n := (m : Int) + 1) (by omega) (by omega), w64 (n := (n : Int) + 1) (by omega) (by omega), w64 (n := ((m + (lnW (s.drop m)).length : Nat) : Int) + 1) (by omega) (by omega), Int.toNat_natCast]
    rw [ev_le_t (a := 0) (b := (m : Int) + 1) (by omega), ev_le_t (a := (m : Int) + 1) (by omega), eSs_len, roomN_t (by omega) (by omega)]
    have e1 : ((m : Int) + 1).toNat = m + 1 := by omega
    have e2 : ((m + (lnW (s.drop m)).length : Nat) : Int) + 1 = ((m + ((lnW (s.drop m)).length + 1) : Nat) : Int) := by omega
    have e3 : (n : Int) + 1 = ((n + 1 : Nat) : Int) := by omega
    have e4 : eSs acc ++ [[L.str (mk ((lnW (s.drop m)).drop 1))]] = eSs (acc ++ [(lnW (s.drop m)).drop 1]) := by
      rw [← eSs_app]; rfl
    rw [e1, ext_mk, hext, e2, e3, e4]
    simp only [dupN_eq]
    refine .go (rhunk_in s hs cnt hcnt fr to T k (n + 1) _ _ (by omega) (by omega) (by simp; omega) (fun hq => hf (by rw [hrls, hq])) (fun ls r hq => ?_))
    have := ht _ _ (by rw [hrls, hq])
    simpa [List.append_assoc] using this
theorem rhunk_holds : Holds k_rhunk := conTI_of (ks := [k_rnum, k_line]) (hold1 rnum_holds (hold1 line_holds hold0)) fun s i g => by
  unfold gRn at g
  simp only [Bool.and_eq_true] at g
  obtain ⟨g1, g2, g3⟩ := g
  have hs := sm_of g1
  have g2 := leI_t g2
  have g3 := leI_t g3
  obtain ⟨i, rfl⟩ := Int.eq_ofNat_of_zero_le g2
  rw [Int.toNat_natCast]
  refine Runs.by (rhunk_e · _ _) ?_
  simp only [size_mk, bl_mk]
  by_cases hi : s.length ≤ i
  · rw [ev_le_t (a := (s.length : Int)) (by omega), drop_end hi]
    exact .ret
  have hd := drop_at (0 : UInt8) (l := s) (i := i) (by omega)
  rw [ev_le_f (b := (i : Int)) (by omega), ev_le_t (a := 0) (b := (i : Int)) (by omega), ev_lt_t (a := (i : Int)) (by omega), byI_mk]
  have hrhk : rhk (s.drop i) = if (s.getD i 0).toNat = 64 then
      match rn (s.drop (i + 1)) 32 with
      | none => none
      | some (a, t) => match rn t 32 with
        | none => none
        | some (b, t) => match rn t 10 with
          | none => none
          | some (n, t) => match rls n t with
            | none => none
            | some (ls, t) => some (⟨a, a + b, ls⟩, t)
    else none := by rw [hd]; rfl
  have fail : rhk (s.drop i) = none → [L.int .i64 (rhH (s.drop i)).fr, .int .i64 (rhH (s.drop i)).to, .lst 9 (eSs (rhH (s.drop i)).ls), .int .i64 (rhI s (s.drop i))] = failH := fun h => by
    unfold rhH rhI
    rw [h]; rfl
  by_cases h64 : (s.getD i 0).toNat = 64
  case neg =>
    rw [if_neg h64] at hrhk
    rw [fail hrhk, ev_ne_t (by omega)]
    exact .ret
  rw [if_pos h64] at hrhk
  rw [ev_ne_f (a := ((s.getD i 0).toNat : Int)) (by omega), w64 (n := (i : Int) + 1) (by omega) (by omega)]
  have e1 : (i : Int) + 1 = ((i + 1 : Nat) : Int) := by omega
  rw [e1, gRn_t hs (by omega)]
  rcases rn_step s (i := i + 1) (by omega) 32 with ⟨q1, q2⟩ | ⟨a, j, q1, q2, q3, q4, q5, q6⟩
  · rw [q2] at hrhk
    rw [fail hrhk, q1]
    exact .ret
  rw [q1, q2, gRn_t hs q4, ev_lt_f (by omega)]
  rw [q6] at hrhk
  rcases rn_step s (i := j) (by omega) 32 with ⟨r1, r2⟩ | ⟨b, k, r1, r2, r3, r4, r5, r6⟩
  · simp only [r2] at hrhk
    rw [fail hrhk, r1]
    exact .ret
  rw [r1, r2, gRn_t hs r4, ev_lt_f (by omega)]
  simp only [r6] at hrhk
  rcases rn_step s (i := k) (by omega) 10 with ⟨t1, t2⟩ | ⟨n, m, t1, t2, t3, t4, t5, t6⟩
  · simp only [t2] at hrhk
    rw [fail hrhk, t1]
    exact .ret
  rw [t1, t2, ev_lt_f (by omega), w64 (by omega) (by omega)]
  simp only [t6] at hrhk
  refine .go ?_
  refine rhunk_in s hs n t5 a (a + b) _ n 0 m [] (by omega) t4 rfl (fun hq => ?_) (fun ls r hq => ?_)
  · simp only [hq] at hrhk
    exact fail hrhk
  · simp only [hq] at hrhk
    unfold rhH rhI
    rw [hrhk]
    rfl
end Go.Ab
namespace Go.Ab
open Go.Proofs

theorem rn_suf {l : W} {e : Int} {v : Nat} {t : W} (h : rn l e = some (v, t)) : ∃ k, k ≤ l.length ∧ 0 < k ∧ t = l.drop k := by
  have := rn_step l (Nat.zero_le _) e
  rw [List.drop_zero] at this
  rcases this with ⟨_, q⟩ | ⟨v', j, _, _, q3, q4, _, q6⟩
  · rw [q] at h; cases h
  · rw [q6] at h
    cases h
    exact ⟨j, q4, q3, rfl⟩
theorem rls_suf : ∀ (n : Nat) (l : W) {ls : List W} {r : W}, rls n l = some (ls, r) → ls.length = n ∧ ls.length + r.length ≤ l.length ∧ (∀ w ∈ ls, w.length ≤ l.length) ∧ ∃ k, k ≤ l.length ∧ r = l.drop k
  | 0, l, ls, r, h => by
    cases h
    exact ⟨rfl, by simp, by simp, 0, Nat.zero_le _, rfl⟩
  | n + 1, [], ls, r, h => by cases h
  | n + 1, c :: t, ls, r, h => by
    rw [rls] at h
    split at h
    case isFalse => cases h
    rename_i hc
    split at h
    case h_2 => cases h
    rename_i ls' r' hq
    cases h
    obtain ⟨h1, h2, h3, k, h4, h5⟩ := rls_suf n _ hq
    rw [List.length_drop] at h2 h4
    have hl := hc.2
    refine ⟨by rw [List.length_cons, h1], by rw [List.length_cons ..]; omega, fun w hw => ?_, (lnW (c :: t)).length + 1 + k, by omega, by rw [h5, List.drop_drop]⟩
    rcases List.mem_cons.1 hw with rfl | hw
    · rw [List.length_drop]; omega
    · have := h3 w hw
      rw [List.length_drop] at this
      omega
theorem rhk_suf {l : W} {h : Hk} {r : W} (hq : rhk l = some (h, r)) : h.ls.length ≤ l.length ∧ (∀ w ∈ h.ls, w.length ≤ l.length) ∧ ∃ k, 0 < k ∧ k ≤ l.length ∧ r = l.drop k := by
  cases l with
  | nil => cases hq
  | cons c t =>
    rw [rhk] at hq
    split at hq
    case isFalse => cases hq
    split at hq
    · cases hq
    rename_i a t1 q1
    split at hq
    · cases hq
    rename_i b t2 q2
    split at hq
    · cases hq
    rename_i n t3 q3
    split at hq
    · cases hq
    rename_i ls t4 q4
    cases hq
    obtain ⟨k1, a1, _, rfl⟩ := rn_suf q1
    obtain ⟨k2, a2, _, rfl⟩ := rn_suf q2
    obtain ⟨k3, a3, _, rfl⟩ := rn_suf q3
    obtain ⟨_, b2, b3, k4, a4, rfl⟩ := rls_suf _ _ q4
    simp only [List.length_drop] at a1 a2 a3 a4 b2 b3
    simp only [List.length_cons]
    refine ⟨by omega, fun w hw => by have := b3 w hw; omega, k1 + k2 + k3 + k4 + 1, by omega, by omega, ?_⟩
    rw [List.drop_drop, List.drop_drop, List.drop_drop, List.drop_succ_cons, show k1 + (k2 + (k3 + k4)) = k1 + k2 + k3 + k4 by omega]
theorem RQ_all {n : Int} : ∀ {l : List Hk} {x : Int}, -1 ≤ x → RQ n x l → ∀ h ∈ l, 0 ≤ h.fr ∧ h.fr ≤ h.to ∧ h.to ≤ n
  | [], x, hx, _, h, hm => by cases hm
  | g :: l, x, hx, ⟨a, b, c, d, e⟩, h, hm => by
    rcases List.mem_cons.1 hm with rfl | hm
    · exact ⟨by omega, b, c⟩
    · exact RQ_all (by omega) e h hm
def parOut2 (s : W) (hs : List Hk) : Option (List Hk) → List L
  | none => failP
  | some l => if rightF (hs ++ l) 2000 = 0 ∧ prF (hs ++ l) = s then [.lst 46 (eHs (hs ++ l)), .int .i64 0] else failP
def lsOk (l : List Hk) : Prop := ∀ h ∈ l, h.ls.length ≤ 2000 ∧ ∀ w ∈ h.ls, w.length ≤ 2000
theorem prOk_t {l : List Hk} (h1 : l.length ≤ 2000) (h2 : lsOk l) (h3 : rightF l 2000 = 0) : prOk l = true := by
  unfold prOk
  rw [Bool.and_eq_true, List.all_eq_true]
  refine ⟨ev_blt h1, fun h hm => ?_⟩
  have hr := RQ_all (by omega) ((rightF_iff (by omega)).1 h3) h hm
  unfold hkOk
  rw [ev_le_t hr.1, ev_le_t hr.2.1, ev_le_t (by omega), ev_blt (h2 h hm).1]
  simp only [Bool.true_and]
  rw [List.all_eq_true]
  exact fun w hw => ev_blt ((h2 h hm).2 w hw)
theorem rPar_out (s : W) (hs2 : s.length ≤ 2000) : ∀ (f i : Nat) (hs : List Hk), s.length - i ≤ f → i ≤ s.length → hs.length ≤ i → lsOk hs →
    Runs (cfg [k_rhunk, k_rright, k_rPrint]) (rParse_q3 (mk s) (i : Nat) (eHs hs)) (parOut2 s hs (rpar f (s.drop i)))
  | f, i, hs, h, hi, hl, ho => by
    refine Runs.by (rParse_p3 · _ _ _) ?_
    simp only [size_mk, bl_mk, dHs_e, isHs_e, eHs_len, Int.toNat_natCast]
    by_cases he : i = s.length
    · have e : rpar f (s.drop i) = some [] := by
        rw [drop_end (by omega)]
        cases f <;> rfl
      rw [e, ev_lt_f (by omega), sm_t (by omega)]
      simp only [parOut2, List.append_nil, Bool.and_self, cond_true]
      by_cases hr : rightF hs 2000 = 0
      · rw [ev_ne_f hr, prOk_t (by omega) ho hr]
        have eb : (!(prF hs == s)) = !decide (prF hs = s) := by
          by_cases hp : prF hs = s
          · rw [decide_eq_true hp, beq_iff_eq.2 hp]
          · rw [decide_eq_false hp, beq_eq_false_iff_ne.2 hp]
        simp only [eb]
        by_cases hp : prF hs = s
        · rw [if_pos ⟨hr, hp⟩, decide_eq_true hp]; exact .ret
        · rw [if_neg (fun h => hp h.2), decide_eq_false hp]; exact .ret
      · rw [ev_ne_t hr, if_neg (fun h => hr h.1)]; exact .ret
    · rw [ev_lt_t (by omega), gRn_t (by omega) hi]
      obtain ⟨f, rfl⟩ : ∃ f', f = f' + 1 := ⟨f - 1, by omega⟩
      have hne : s.drop i = s.getD i 0 :: s.drop (i + 1) := drop_at (0 : UInt8) (by omega)
      have hrp : rpar (f + 1) (s.drop i) = match rhk (s.drop i) with
        | none => none
        | some (h, r) => match rpar f r with
          | none => none
          | some l => some (h :: l) := by
        rw [hne]; rfl
      cases hq : rhk (s.drop i) with
      | none =>
        simp only [hq] at hrp
        rw [hrp]
        have : rhI s (s.drop i) = -1 := by unfold rhI; rw [hq]
        rw [this]
        exact .ret
      | some p =>
        obtain ⟨h, r⟩ := p
        obtain ⟨b1, b2, k, k0, k1, rfl⟩ := rhk_suf hq
        rw [List.length_drop] at b1 b2 k1
        simp only [hq] at hrp
        rw [List.drop_drop] at hrp
        have e1 : rhI s (s.drop i) = ((i + k : Nat) : Int) := by
          unfold rhI
          rw [hq]
          simp only [List.length_drop]
          omega
        have e2 : rhH (s.drop i) = h := by unfold rhH; rw [hq]
        rw [e1, e2, ev_lt_f (by omega), roomN_t (by omega) (by omega)]
        have e3 : eHs hs ++ [[L.int .i64 h.fr, .int .i64 h.to, .lst 9 (eSs h.ls)]] = eHs (hs ++ [h]) := by rw [← eHs_app]; rfl
        rw [e3]
        have ih := rPar_out s hs2 f (i + k) (hs ++ [h]) (by omega) (by omega) (by simp; omega) (fun g hg => by
          rcases List.mem_append.1 hg with hg | hg
          · exact ho g hg
          · rw [List.mem_singleton.1 hg]
            exact ⟨by omega, fun w hw => by have := b2 w hw; omega⟩)
        have e4 : parOut2 s (hs ++ [h]) (rpar f (s.drop (i + k))) = parOut2 s hs (rpar (f + 1) (s.drop i)) := by
          rw [hrp]
          cases rpar f (s.drop (i + k)) with
          | none => rfl
          | some l => simp only [parOut2, List.append_assoc, List.singleton_append]
        rw [← e4]
        exact .go ih
theorem rParse_holds (hP : Holds k_rPrint) : Holds k_rParse := conT_of (ks := [k_rhunk, k_rright, k_rPrint]) (hold1 rhunk_holds (hold1 rright_holds (hold1 hP hold0))) fun s g => by
  have hs := Nat.le_of_ble_eq_true g
  refine Runs.by (rParse_e · _) ?_
  have := rPar_out s hs s.length 0 [] (by omega) (by omega) (by simp) (fun h hm => by cases hm)
  rw [List.drop_zero] at this
  have e : parOut2 s [] (rpar s.length s) = [.lst 46 (eHs ((rparR s).getD [])), .int .i64 (cond (rparR s).isSome 0 3)] := by
    unfold rparR
    cases rpar s.length s with
    | none => rfl
    | some l =>
      simp only [parOut2, List.nil_append]
      by_cases hr : rightF l 2000 = 0 ∧ prF l = s
      · rw [if_pos hr, if_pos hr]; rfl
      · rw [if_neg hr, if_neg hr]; rfl
  rw [← e]
  exact .go this
end Go.Ab
namespace Go.Ab
open Go.Proofs
/-! codesearch/codesearchref23.Print -/
noncomputable def rPrint_q3 (l0 : List (List L)) (s3 : ByteArray) (i4 : Int) : Req := .point 25 [] (todoAt Tryd.prog 25 3) ⟨[(.lf (.lst 46 l0)), an, an, (.lf (.str s3)), (.lf (.int IntKind.i64 i4)), an, an, an, an, an, an, an, an, an, an, an, an, an, an, an, an, an, an, an, an, an, an, an, an, an, an, an, an, an, an, an, an, an, an, an, an, an, an, an, an, an, an, an, an, an, an, an, an, an, an, an, an, an, an, an, an, an, an, an, an, an, an, an], []⟩
noncomputable def rPrint_q7 (l0 : List (List L)) (s3 : ByteArray) (i4 : Int) (k5 : Int) : Req := .point 25 [] (todoAt Tryd.prog 25 7) ⟨[(.lf (.lst 46 l0)), an, an, (.lf (.str s3)), (.lf (.int IntKind.i64 i4)), (.lf (.int IntKind.i64 k5)), an, an, an, an, an, an, an, an, an, an, an, an, an, an, an, an, an, an, an, an, an, an, an, an, an, an, an, an, an, an, an, an, an, an, an, an, an, an, an, an, an, an, an, an, an, an, an, an, an, an, an, an, an, an, an, an, an, an, an, an, an, an], []⟩
theorem rPrint_e (G : Req → R) (l0 : List (List L)) : runB (cfg [k_digits]) G (.enter 25 [(.lf (.lst 46 l0))] []) =
  (G (rPrint_q3 l0 (mk []) 0)) := by kernel_rfl
theorem rPrint_p3 (G : Req → R) (l0 : List (List L)) (s3 : ByteArray) (i4 : Int) : runB (cfg [k_digits]) G (rPrint_q3 l0 s3 i4) =
  (cond (ltI i4 (↑(List.length l0) : Int))
   (cond (leI (↑(ByteArray.size s3 + 1) : Int) (IntKind.max IntKind.i64))
    (cond (leI 0 i4 && ltI i4 (↑(List.length l0) : Int))
     (cond (leI 0 i4 && ltI i4 (↑(List.length l0) : Int))
      (cond (leI 0 i4 && ltI i4 (↑(List.length l0) : Int))
       (cond (leI 0 i4 && ltI i4 (↑(List.length l0) : Int))
        (cond (gDg (cI 0 (atL l0 i4)))
         (cond (leI (↑(ByteArray.size (s3 ++ mk [64]) + ByteArray.size (digS (cI 0 (atL l0 i4)))) : Int) (IntKind.max IntKind.i64))
          (cond (leI (↑(ByteArray.size (s3 ++ mk [64] ++ digS (cI 0 (atL l0 i4))) + 1) : Int) (IntKind.max IntKind.i64))
           (cond (gDg (wrapI IntKind.i64 (cI 1 (atL l0 i4) - cI 0 (atL l0 i4))))
            (cond (leI (↑(ByteArray.size (s3 ++ mk [64] ++ digS (cI 0 (atL l0 i4)) ++ mk [32]) + ByteArray.size (digS (wrapI IntKind.i64 (cI 1 (atL l0 i4) - cI 0 (atL l0 i4))))) : Int) (IntKind.max IntKind.i64))
             (cond (leI (↑(ByteArray.size (s3 ++ mk [64] ++ digS (cI 0 (atL l0 i4)) ++ mk [32] ++ digS (wrapI IntKind.i64 (cI 1 (atL l0 i4) - cI 0 (atL l0 i4)))) + 1) : Int) (IntKind.max IntKind.i64))
              (cond (gDg (↑(List.length (cX 2 (atL l0 i4))) : Int))
               (cond (leI (↑(ByteArray.size (s3 ++ mk [64] ++ digS (cI 0 (atL l0 i4)) ++ mk [32] ++ digS (wrapI IntKind.i64 (cI 1 (atL l0 i4) - cI 0 (atL l0 i4))) ++ mk [32]) + ByteArray.size (digS (↑(List.length (cX 2 (atL l0 i4))) : Int))) : Int) (IntKind.max IntKind.i64))
                (cond (leI (↑(ByteArray.size (s3 ++ mk [64] ++ digS (cI 0 (atL l0 i4)) ++ mk [32] ++ digS (wrapI IntKind.i64 (cI 1 (atL l0 i4) - cI 0 (atL l0 i4))) ++ mk [32] ++ digS (↑(List.length (cX 2 (atL l0 i4))) : Int)) + 1) : Int) (IntKind.max IntKind.i64))
                 (G (rPrint_q7 l0 (s3 ++ mk [64] ++ digS (cI 0 (atL l0 i4)) ++ mk [32] ++ digS (wrapI IntKind.i64 (cI 1 (atL l0 i4) - cI 0 (atL l0 i4))) ++ mk [32] ++ digS (↑(List.length (cX 2 (atL l0 i4))) : Int) ++ mk [10]) i4 0))
                 none)
                none)
               none)
              none)
             none)
            none)
           none)
          none)
         none)
        none)
       none)
      none)
     none)
    none)
   (some [(.str (s3))])) := by kernel_rfl
theorem rPrint_p7 (G : Req → R) (l0 : List (List L)) (s3 : ByteArray) (i4 : Int) (k5 : Int) : runB (cfg [k_digits]) G (rPrint_q7 l0 s3 i4 k5) =
  (cond (leI 0 i4 && ltI i4 (↑(List.length l0) : Int))
   (cond (ltI k5 (↑(List.length (cX 2 (atL l0 i4))) : Int))
    (cond (leI (↑(ByteArray.size s3 + 1) : Int) (IntKind.max IntKind.i64))
     (cond (leI 0 i4 && ltI i4 (↑(List.length l0) : Int))
      (cond (leI 0 k5 && ltI k5 (↑(List.length (cX 2 (atL l0 i4))) : Int))
       (cond (leI (↑(ByteArray.size (s3 ++ mk [43]) + ByteArray.size (cT 0 (atL (cX 2 (atL l0 i4)) k5))) : Int) (IntKind.max IntKind.i64))
        (cond (leI (↑(ByteArray.size (s3 ++ mk [43] ++ cT 0 (atL (cX 2 (atL l0 i4)) k5)) + 1) : Int) (IntKind.max IntKind.i64))
         (G (rPrint_q7 l0 (s3 ++ mk [43] ++ cT 0 (atL (cX 2 (atL l0 i4)) k5) ++ mk [10]) i4 (wrapI IntKind.i64 (k5 + 1))))
         none)
        none)
       none)
      none)
     none)
    (G (rPrint_q3 l0 s3 (wrapI IntKind.i64 (i4 + 1)))))
   none) := by kernel_rfl

end Go.Ab
namespace Go.Ab
open Go.Proofs

theorem flat_len : ∀ (xs : List W), (∀ w ∈ xs, w.length ≤ 2000) → (xs.flatMap lnT).length ≤ xs.length * 2002
  | [], _ => by simp
  | x :: xs, hx => by
    have := flat_len xs fun w hw => hx w (List.mem_cons_of_mem _ hw)
    have hx0 := hx x (List.mem_cons_self ..)
    rw [List.flatMap_cons, List.length_append, lnT_len, List.length_cons]
    omega
theorem rPrint_in (l : List Hk) (hll : l.length ≤ 2000) (i : Nat) (hi : i < l.length) (ls : List W) (he : cX 2 (atL (eHs l) (i : Int)) = eSs ls) (hls : ls.length ≤ 2000) (hw : ∀ w ∈ ls, w.length ≤ 2000) (T : List L) : ∀ (m k : Nat) (acc : W), k + m = ls.length → acc.length + m * 2002 ≤ 10000000000 →
    Runs (cfg [k_digits]) (rPrint_q3 (eHs l) (mk (acc ++ (ls.drop k).flatMap lnT)) ((i + 1 : Nat) : Int)) T → Runs (cfg [k_digits]) (rPrint_q7 (eHs l) (mk acc) (i : Nat) (k : Nat)) T
  | 0, k, acc, h, hl, hT => by
    refine Runs.by (rPrint_p7 · _ _ _ _) ?_
    have e2 : ((i : Int) + 1) = ((i + 1 : Nat) : Int) := by omega
    rw [drop_end (by omega)] at hT
    simp only [List.flatMap_nil, List.append_nil] at hT
    simp (disch := omega) only [he, eSs_len, eHs_len, ev_le_t, ev_lt_t, Bool.and_self, cond_true, ev_lt_f, cond_false, w64, e2]
    exact .go hT
  | m + 1, k, acc, h, hl, hT => by
    have hk : k < ls.length := by omega
    have hwk := hw _ (getD_mem [] hk)
    have e2 : ((k : Int) + 1) = ((k + 1 : Nat) : Int) := by omega
    refine Runs.by (rPrint_p7 · _ _ _ _) ?_
    simp (disch := omega) only [he, eSs_len, eHs_len, ev_lt_t, ev_le_t, Bool.and_self, cond_true, eSs_at, cT_e, app_mk, size_mk, List.length_append, List.length_cons, List.length_nil, imax, w64, e2]
    refine .go (rPrint_in l hll i hi ls he hls hw T m (k + 1) _ (by omega) ?_ ?_)
    · simp only [List.length_append, List.length_cons, List.length_nil]; omega
    · rw [drop_at ([] : W) hk] at hT
      have e : acc ++ [43] ++ ls.getD k [] ++ [10] ++ (ls.drop (k + 1)).flatMap lnT = acc ++ (ls.getD k [] :: ls.drop (k + 1)).flatMap lnT := by
        rw [List.flatMap_cons]
        simp [lnT]
      rw [e]
      exact hT
theorem rPrint_loop (l : List Hk) (hl : l.length ≤ 2000) (ho : ∀ h ∈ l, hkOk h = true) : ∀ (m i : Nat) (acc : W), i + m = l.length → acc.length ≤ i * 4005000 →
    Runs (cfg [k_digits]) (rPrint_q3 (eHs l) (mk acc) (i : Nat)) [.str (mk (acc ++ prF (l.drop i)))]
  | 0, i, acc, h, hb => by
    refine Runs.by (rPrint_p3 · _ _ _) ?_
    simp (disch := omega) only [eHs_len, ev_lt_f, cond_false]
    rw [drop_end (by omega)]
    exact .ret' (by simp [prF])
  | m + 1, i, acc, h, hb => by
    have hi : i < l.length := by omega
    obtain ⟨f, t, he, h1, h2, h3, h4⟩ := hkOk_of (ho _ (getD_mem default hi))
    have hat := eHs_at hi
    have hd := drop_at (default : Hk) hi
    generalize l.getD i default = hk at *
    obtain ⟨fr, to, ls⟩ := hk
    simp only [Hk.mk.injEq, and_true] at he
    obtain ⟨rfl, rfl⟩ := he
    simp only at h3 h4
    have e0 : cI 0 (atL (eHs l) (i : Int)) = (f : Int) := by rw [hat]; rfl
    have e1 : cI 1 (atL (eHs l) (i : Int)) = (t : Int) := by rw [hat]; rfl
    have e2 : cX 2 (atL (eHs l) (i : Int)) = eSs ls := by rw [hat]; rfl
    have e3 : (t : Int) - (f : Int) = ((t - f : Nat) : Int) := by omega
    have d1 := dig_len f
    have d2 := dig_len (t - f)
    have d3 := dig_len ls.length
    refine Runs.by (rPrint_p3 · _ _ _) ?_
    simp (disch := omega) only [eHs_len, ev_lt_t, ev_le_t, Bool.and_self, cond_true, e0, e1, e2, e3, eSs_len, w64, digS, gDg, Int.toNat_natCast, app_mk, size_mk, List.length_append, List.length_cons, List.length_nil, imax]
    have fl := flat_len ls h4
    refine .go (rPrint_in l hl i hi ls e2 h3 h4 _ ls.length 0 _ (by omega) ?_ ?_)
    · simp only [List.length_append, List.length_cons, List.length_nil]; omega
    · have ih := rPrint_loop l hl ho m (i + 1) (acc ++ [64] ++ dig f ++ [32] ++ dig (t - f) ++ [32] ++ dig ls.length ++ [10] ++ (ls.drop 0).flatMap lnT) (by omega) (by
        rw [List.drop_zero]
        simp only [List.length_append, List.length_cons, List.length_nil]
        omega)
      have e : acc ++ [64] ++ dig f ++ [32] ++ dig (t - f) ++ [32] ++ dig ls.length ++ [10] ++ (ls.drop 0).flatMap lnT ++ prF (l.drop (i + 1)) = acc ++ prF (l.drop i) := by
        rw [hd]
        show _ = acc ++ (List.flatMap _ (_ :: _))
        rw [List.flatMap_cons]
        simp [hkT, prF, e3]
      rw [e] at ih
      exact ih
theorem rPrint_holds : Holds k_rPrint := conH_of (ks := [k_digits]) (hold1 digits_holds hold0) fun l g => by
  obtain ⟨g1, g2⟩ := prOk_of g
  refine Runs.by (rPrint_e · _) ?_
  have := rPrint_loop l g1 g2 l.length 0 [] (by omega) (by simp)
  exact .go this
end Go.Ab
namespace Go.Ab
open Go.Proofs

theorem few_of {a : List W} (h : fewF a = true) : a.length ≤ 40 ∧ ∀ s ∈ a, s.length ≤ 200 := by
  unfold fewF at h
  rw [Bool.and_eq_true, List.all_eq_true] at h
  exact ⟨Nat.le_of_ble_eq_true h.1, fun s hs => Nat.le_of_ble_eq_true (h.2 s hs)⟩
theorem hunksF_of {l : List Hk} (h : hunksF l = true) : l.length ≤ 40 ∧ ∀ g ∈ l, g.ls.length ≤ 40 ∧ ∀ s ∈ g.ls, s.length ≤ 200 := by
  unfold hunksF at h
  rw [Bool.and_eq_true, List.all_eq_true] at h
  exact ⟨Nat.le_of_ble_eq_true h.1, fun g hg => few_of (h.2 g hg)⟩
theorem fewA_holds : Holds k_fewA := conS_of (ks := []) hold0 fun a _ => by
  refine Runs.by (few_e · _) ?_
  rw [eSs_len]
  refine RunsF.cond (fun hc => ?_) (fun hc => ?_)
  · have hc := ltI_t hc
    have e : Nat.ble a.length 40 = false := by rw [← Bool.not_eq_true, Nat.ble_eq]; omega
    unfold fewF
    rw [e]
    exact .ret
  · have hc := ltI_f hc
    have e : Nat.ble a.length 40 = true := by rw [Nat.ble_eq]; omega
    unfold fewF
    rw [e, Bool.true_and]
    exact .go (few_loop a (by omega) a.length 0 (by omega))
theorem hunksA_loop (l : List Hk) (hl : l.length ≤ 40) : ∀ m i : Nat, i + m = l.length → Runs (cfg [k_fewA]) (hunksA_q4 (eHs l) (i : Nat)) [.bool ((l.drop i).all fun h => fewF h.ls)]
  | 0, i, h => by
    refine Runs.by (hunksA_p4 · _ _) ?_
    simp (disch := omega) only [eHs_len, ev_lt_f, cond_false]
    rw [drop_end (by omega)]
    exact .ret
  | m + 1, i, h => by
    have ih := hunksA_loop l hl m (i + 1) (by omega)
    refine Runs.by (hunksA_p4 · _ _) ?_
    simp (disch := omega) only [eHs_len, ev_lt_t, ev_le_t, Bool.and_self, cond_true, eHs_at, cX2_e, isSs_e, dSs_e, w64]
    rw [drop_at (l := l) default (by omega), List.all_cons]
    cases fewF (l.getD i default).ls
    · exact .ret
    · exact .go ih
theorem hunksA_holds : Holds k_hunksA := conH_of (ks := [k_fewA]) (hold1 fewA_holds hold0) fun l _ => by
  refine Runs.by (hunksA_e · _) ?_
  rw [eHs_len]
  refine RunsF.cond (fun hc => ?_) (fun hc => ?_)
  · have hc := ltI_t hc
    have e : Nat.ble l.length 40 = false := by rw [← Bool.not_eq_true, Nat.ble_eq]; omega
    unfold hunksF
    rw [e]
    exact .ret
  · have hc := ltI_f hc
    have e : Nat.ble l.length 40 = true := by rw [Nat.ble_eq]; omega
    unfold hunksF
    rw [e, Bool.true_and]
    exact .go (hunksA_loop l (by omega) l.length 0 (by omega))

theorem gHk_t {l : List Hk} (h : l.length ≤ 1000000) (h2 : ∀ g ∈ l, g.ls.length ≤ 1000000) : gHk l = true := by
  unfold gHk
  rw [sm_t h, Bool.true_and, List.all_eq_true]
  exact fun g hg => sm_t (h2 g hg)
theorem nearZ_t {n : Int} (h1 : -1000000000 ≤ n) (h2 : n ≤ 1000000000) : near n = true := by
  unfold near
  rw [ev_le_t h1, ev_le_t h2]; rfl
theorem gDi_t {l : List Hk} (h : l.length ≤ 1000000) (h2 : ∀ g ∈ l, -1000000000 ≤ g.fr ∧ g.fr ≤ 1000000000 ∧ -1000000000 ≤ g.to ∧ g.to ≤ 1000000000 ∧ g.ls.length ≤ 1000000) : gDi l = true := by
  unfold gDi
  rw [sm_t h, Bool.true_and, List.all_eq_true]
  intro g hg
  obtain ⟨a, b, c, d, e⟩ := h2 g hg
  rw [nearZ_t a b, nearZ_t c d, sm_t e]; rfl
theorem RQ_di {n : Nat} {x : Int} {l : List Hk} (hr : RQ n x l) (hx : -1 ≤ x) (hn : n ≤ 1000000) (hl : l.length ≤ 1000000) (hs : ∀ g ∈ l, g.ls.length ≤ 1000000) : gDi l = true :=
  gDi_t hl fun g hg => by
    have := RQ_mem hr g hg
    exact ⟨by omega, by omega, by omega, by omega, hs g hg⟩
theorem lnF_di {a b : List W} (ha : a.length ≤ 400) (hb : b.length ≤ 400) : gDi (lnF a b) = true := by
  obtain ⟨h1, h2⟩ := lnF_facts ha hb
  exact RQ_di (lnF_right a b) (Int.le_refl _) (by omega) (by omega) fun g hg => by have := h2 g hg; omega
theorem lnF_hk {a b : List W} (ha : a.length ≤ 400) (hb : b.length ≤ 400) : gHk (lnF a b) = true := by
  obtain ⟨h1, h2⟩ := lnF_facts ha hb
  exact gHk_t (by omega) fun g hg => by have := h2 g hg; omega
theorem gAp_t {a : List W} {l : List Hk} (ha : a.length ≤ 1000000) (hl : l.length ≤ 1000) (h : ∀ g ∈ l, g.ls.length ≤ 100000) : gAp a l = true := by
  unfold gAp
  rw [sm_t ha, Nat.ble_eq_true_of_le hl, Bool.true_and, Bool.true_and, List.all_eq_true]
  exact fun g hg => Nat.ble_eq_true_of_le (h g hg)
theorem appG_len (a : List W) (k : Nat) : ∀ (l : List Hk) (i : Nat), (∀ g ∈ l, g.ls.length ≤ k) → (appG a i l).length ≤ (l.length + 1) * a.length + l.length * k
  | [], i, h => by
    rw [appG, List.length_drop]
    simp
  | g :: l, i, h => by
    have ih := appG_len a k l g.to.toNat fun g hg => h g (List.mem_cons_of_mem _ hg)
    have h0 := h g List.mem_cons_self
    rw [appG, List.length_append, List.length_append, List.length_cons, Nat.succ_mul (l.length + 1), Nat.succ_mul l.length k]
    have : ((a.take g.fr.toNat).drop i).length ≤ a.length := by rw [List.length_drop, List.length_take]; omega
    omega
theorem applyF_len (a : List W) (k : Nat) {l : List Hk} (h : ∀ g ∈ l, g.ls.length ≤ k) : (applyF a l).length ≤ (l.length + 1) * a.length + l.length * k := by
  unfold applyF
  cases rightF l (a.length : Nat) == 0
  · exact Nat.zero_le _
  · exact appG_len a k l 0 h
theorem invG_len (a : List W) : ∀ (l : List Hk) (v : Int), (invG a v l).length = l.length ∧ ∀ g ∈ invG a v l, g.ls.length ≤ a.length
  | [], v => ⟨rfl, fun g hg => by cases hg⟩
  | h :: l, v => by
    obtain ⟨i1, i2⟩ := invG_len a l (v + ((h.ls.length : Nat) - (h.to - h.fr)))
    rw [invG]
    refine ⟨by rw [List.length_cons, List.length_cons, i1], fun g hg => ?_⟩
    rcases List.mem_cons.1 hg with rfl | hg
    · show ((a.take h.to.toNat).drop h.fr.toNat).length ≤ a.length
      rw [List.length_drop, List.length_take]; omega
    · exact i2 g hg
theorem invF_len (a : List W) (l : List Hk) : (invF a l).length ≤ l.length ∧ ∀ g ∈ invF a l, g.ls.length ≤ a.length := by
  unfold invF
  cases rightF l (a.length : Nat) == 0
  · exact ⟨Nat.zero_le _, fun g hg => by cases hg⟩
  · obtain ⟨i1, i2⟩ := invG_len a l 0
    exact ⟨by rw [cond_true, i1]; exact Nat.le_refl _, i2⟩
end Go.Ab
namespace Go.Ab
open Go.Proofs

theorem alive_holds : Holds k_alive := con_run (xs := [k_one, k_Lines, k_Same, k_dist, k_dPrint, k_Merge, k_stext, k_dParse, k_right])
    (hold1 one_holds (hold1 dLines_holds (hold1 Same_holds (hold1 dist_holds (hold1 dPrint_holds (hold1 Merge_holds (hold1 stext_holds (hold1 dParse_holds (hold1 right_holds hold0))))))))) fun aa hp r h0 => by
  split at h0
  · obtain ⟨g0, rfl⟩ := xo h0
    refine Runs.by (alive_e ·) ?_
    have s1 : isSs [[L.str (mk [97])], [L.str (mk [98])], [L.str (mk [99])]] = true := isSs_e [[97], [98], [99]]
    have s2 : isSs [[L.str (mk [97])], [L.str (mk [120])], [L.str (mk [99])]] = true := isSs_e [[97], [120], [99]]
    have s3 : isHs [[L.int IntKind.i64 1, L.int IntKind.i64 2, L.lst 9 [[L.str (mk [120])]]]] = true := isHs_e [⟨1, 2, [[120]]⟩]
    have s4 : isSs [[L.str (mk [97])]] = true := isSs_e [[97]]
    have s5 : isSs [[L.str (mk [97])], [L.str (mk [97])]] = true := isSs_e [[97], [97]]
    have s6 : isHs [[L.int IntKind.i64 1, L.int IntKind.i64 1, L.lst 9 [[L.str (mk [97])]]]] = true := isHs_e [⟨1, 1, [[97]]⟩]
    have s7 : isSs [[L.str (mk [120])], [L.str (mk [121])]] = true := isSs_e [[120], [121]]
    have s8 : isSs [[L.str (mk [121])], [L.str (mk [120])]] = true := isSs_e [[121], [120]]
    have s9 : isHs [[L.int IntKind.i64 0, L.int IntKind.i64 0, L.lst 9 [[L.str (mk [121])]]], [L.int IntKind.i64 1, L.int IntKind.i64 2, L.lst 9 []]] = true := isHs_e [⟨0, 0, [[121]]⟩, ⟨1, 2, []⟩]
    have t1 : isSs [[L.str (mk [65])], [L.str (mk [98])], [L.str (mk [99])]] = true := isSs_e [[65], [98], [99]]
    have t2 : isSs [[L.str (mk [97])], [L.str (mk [98])], [L.str (mk [67])]] = true := isSs_e [[97], [98], [67]]
    have t3 : isSs [[L.str (mk [97])], [L.str (mk [98])]] = true := isSs_e [[97], [98]]
    have t4 : isSs [[L.str (mk [65])], [L.str (mk [98])]] = true := isSs_e [[65], [98]]
    have t5 : isSs [[L.str (mk [97])], [L.str (mk [66])]] = true := isSs_e [[97], [66]]
    have t6 : isSs [[L.str (mk [65])], [L.str (mk [98])], [L.str (mk [67])]] = true := isSs_e [[65], [98], [67]]
    have t7 : isHs [[L.int IntKind.i64 0, L.int IntKind.i64 1, L.lst 9 []], [L.int IntKind.i64 1, L.int IntKind.i64 2, L.lst 9 []]] = true := isHs_e [⟨0, 1, []⟩, ⟨1, 2, []⟩]
    simp only [s1, s2, s3, s4, s5, s6, s7, s8, s9, t1, t2, t3, t4, t5, t6, t7, isHs_e, isSs_e, Bool.and_true, cond_true]
    exact .ret
  · cases h0

theorem run_DiffLines (a b : List W) : Runs (cfg [k_alive, k_fewA, k_Lines, k_rLines, k_Same, k_dist, k_rDist]) (.enter 3 [.lf (.lst 9 (eSs a)), .lf (.lst 9 (eSs b))] []) [.bool true] := by
  refine Runs.by (lLines_e · _ _) ?_
  simp only [isSs_e, isHs_e, dSs_e, dHs_e, Bool.true_and, cond_true]
  cases ha : fewF a
  · exact .ret
  cases hb : fewF b
  · exact .ret
  have ha := (few_of ha).1
  have hb := (few_of hb).1
  simp only [Bool.not_true, cond_false, gL5_t (a := a) (b := b) (by omega) (by omega), lnF_hk (a := a) (b := b) (by omega) (by omega), lnF_di (a := a) (b := b) (by omega) (by omega), Bool.and_self, cond_true, decide_true, beq_self_eq_true]
  exact .ret

theorem run_DiffApplies (a : List W) (l : List Hk) (n : Int) : Runs (cfg [k_alive, k_fewA, k_hunksA, k_apply, k_rapply, k_inv, k_rinv, k_right, k_rright, k_stext, k_Same]) (.enter 9 [.lf (.lst 9 (eSs a)), .lf (.lst 46 (eHs l)), .lf (.int .i64 n)] []) [.bool true] := by
  refine Runs.by (lApplies_e · _ _ _) ?_
  simp only [isSs_e, isHs_e, dSs_e, dHs_e, Bool.true_and, cond_true]
  cases ha : fewF a
  · exact .ret
  cases hl : hunksF l
  · exact .ret
  have ha := (few_of ha).1
  obtain ⟨hl, hs⟩ := hunksF_of hl
  have g1 : gAp a l = true := gAp_t (by omega) (by omega) fun g hg => by have := (hs g hg).1; omega
  have g2 : sm l.length = true := sm_t (by omega)
  have g3 : (applyF a l).length ≤ 1000000 := by
    refine Nat.le_trans (applyF_len a 40 fun g hg => (hs g hg).1) ?_
    have h1 : (l.length + 1) * a.length ≤ 41 * 40 := Nat.mul_le_mul (by omega) (by omega)
    have h2 : l.length * 40 ≤ 40 * 40 := Nat.mul_le_mul_right _ hl
    omega
  have g4 : gHk (invF a l) = true := by
    obtain ⟨i1, i2⟩ := invF_len a l
    exact gHk_t (by omega) fun g hg => by have := i2 g hg; omega
  simp only [Bool.not_true, cond_false, g1, g2, gLL_t g3 g3, g4, Bool.and_self, cond_true, decide_true, beq_self_eq_true]
  exact .ret
end Go.Ab
namespace Go.Ab
open Go.Proofs

theorem cfl_iff {y x : Hk} : cfl y x = true ↔ x ≠ y ∧ y.fr ≤ x.to ∧ x.fr ≤ y.to := by
  unfold cfl
  rw [Bool.and_eq_true, Bool.and_eq_true, leI_eq, leI_eq]
  simp
theorem cfl_f {y x : Hk} (h : ¬ (x ≠ y ∧ y.fr ≤ x.to ∧ x.fr ≤ y.to)) : cfl y x = false := by
  rw [← Bool.not_eq_true, cfl_iff]; exact h
theorem mgC_iff {l ms : List Hk} : mgC l ms = true ↔ ∃ y ∈ ms, ∃ x ∈ l, cfl y x = true := by
  unfold mgC
  simp only [List.any_eq_true]
theorem RQ_hd {n q : Int} {y : Hk} {ys : List Hk} (h : RQ n q (y :: ys)) : ∀ g ∈ y :: ys, y.fr ≤ g.fr ∧ g.fr ≤ g.to := by
  intro g hg
  have h0 := RQ_mem h y List.mem_cons_self
  rcases List.mem_cons.1 hg with rfl | hg
  · exact ⟨Int.le_refl _, h0.2.1⟩
  · have := RQ_mem h.2.2.2.2 g hg
    exact ⟨by omega, this.2.1⟩
theorem mrg_spec {n : Int} : ∀ (f : Nat) (xs ys : List Hk) (p q : Int), RQ n p xs → RQ n q ys → xs.length + ys.length ≤ f →
    (mrgF f xs ys = none → ∃ y ∈ ys, ∃ x ∈ xs, cfl y x = true) ∧
    ∀ r, mrgF f xs ys = some r → (∀ y ∈ ys, ∀ x ∈ xs, cfl y x = false) ∧ IncL r ∧ ∀ g, g ∈ r ↔ g ∈ xs ∨ g ∈ ys
  | f, [], ys, p, q, hx, hy, hf => by
    rw [mrgF_nil']
    refine ⟨fun h => (by cases h), fun r hr => ?_⟩
    cases hr
    exact ⟨fun y _ x hx => (by cases hx), (RQ_inc hy).1, fun g => by simp⟩
  | f, x :: xs, [], p, q, hx, hy, hf => by
    rw [mrgF_nil]
    refine ⟨fun h => (by cases h), fun r hr => ?_⟩
    cases hr
    exact ⟨fun y hy => (by cases hy), (RQ_inc hx).1, fun g => by simp⟩
  | 0, x :: xs, y :: ys, p, q, hx, hy, hf => by simp at hf
  | f + 1, x :: xs, y :: ys, p, q, hx, hy, hf => by
    have xh := RQ_hd hx
    have yh := RQ_hd hy
    have xt := RQ_mem hx.2.2.2.2
    have yt := RQ_mem hy.2.2.2.2
    have x0 := hx.2.1
    have y0 := hy.2.1
    simp only [List.length_cons] at hf
    rw [mrgF]
    by_cases c1 : x.to < y.fr
    · rw [if_pos c1]
      obtain ⟨i1, i2⟩ := mrg_spec f xs (y :: ys) x.to q hx.2.2.2.2 hy (by simp only [List.length_cons]; omega)
      cases e : mrgF f xs (y :: ys) with
      | none =>
        obtain ⟨y', h1, x', h2, h3⟩ := i1 e
        exact ⟨fun _ => ⟨y', h1, x', List.mem_cons_of_mem _ h2, h3⟩, fun r hr => by cases hr⟩
      | some l =>
        obtain ⟨k1, k2, k3⟩ := i2 l e
        refine ⟨fun h => (by cases h), fun r hr => ?_⟩
        cases hr
        refine ⟨fun y' hy' x' hx' => ?_, List.Pairwise.cons (fun g hg => ?_) k2, fun g => ?_⟩
        · rcases List.mem_cons.1 hx' with rfl | hx'
          · exact cfl_f fun ⟨_, a, b⟩ => by have := yh y' hy'; omega
          · exact k1 y' hy' x' hx'
        · rcases (k3 g).1 hg with hg | hg
          · have := xt g hg; omega
          · have := yh g hg; omega
        · rw [List.mem_cons, k3, List.mem_cons (l := xs), or_assoc]
    · rw [if_neg c1]
      by_cases c2 : y.to < x.fr
      · rw [if_pos c2]
        obtain ⟨i1, i2⟩ := mrg_spec f (x :: xs) ys p y.to hx hy.2.2.2.2 (by simp only [List.length_cons]; omega)
        cases e : mrgF f (x :: xs) ys with
        | none =>
          obtain ⟨y', h1, x', h2, h3⟩ := i1 e
          exact ⟨fun _ => ⟨y', List.mem_cons_of_mem _ h1, x', h2, h3⟩, fun r hr => by cases hr⟩
        | some l =>
          obtain ⟨k1, k2, k3⟩ := i2 l e
          refine ⟨fun h => (by cases h), fun r hr => ?_⟩
          cases hr
          refine ⟨fun y' hy' x' hx' => ?_, List.Pairwise.cons (fun g hg => ?_) k2, fun g => ?_⟩
          · rcases List.mem_cons.1 hy' with rfl | hy'
            · exact cfl_f fun ⟨_, a, b⟩ => by have := xh x' hx'; omega
            · exact k1 y' hy' x' hx'
          · rcases (k3 g).1 hg with hg | hg
            · have := xh g hg; omega
            · have := yt g hg; omega
          · rw [List.mem_cons, k3, List.mem_cons (l := ys)]
            constructor
            · rintro (h | h | h)
              · exact .inr (.inl h)
              · exact .inl h
              · exact .inr (.inr h)
            · rintro (h | h | h)
              · exact .inr (.inl h)
              · exact .inl h
              · exact .inr (.inr h)
      · rw [if_neg c2]
        by_cases c3 : x = y
        · rw [if_pos c3]
          subst c3
          obtain ⟨i1, i2⟩ := mrg_spec f xs ys x.to x.to hx.2.2.2.2 hy.2.2.2.2 (by omega)
          cases e : mrgF f xs ys with
          | none =>
            obtain ⟨y', h1, x', h2, h3⟩ := i1 e
            exact ⟨fun _ => ⟨y', List.mem_cons_of_mem _ h1, x', List.mem_cons_of_mem _ h2, h3⟩, fun r hr => by cases hr⟩
          | some l =>
            obtain ⟨k1, k2, k3⟩ := i2 l e
            refine ⟨fun h => (by cases h), fun r hr => ?_⟩
            cases hr
            refine ⟨fun y' hy' x' hx' => ?_, List.Pairwise.cons (fun g hg => ?_) k2, fun g => ?_⟩
            · rcases List.mem_cons.1 hy' with e1 | hy2
              · rcases List.mem_cons.1 hx' with e2 | hx2
                · exact cfl_f fun ⟨a, _⟩ => a (e2.trans e1.symm)
                · exact cfl_f fun ⟨_, a, b⟩ => by have := xt x' hx2; rw [e1] at b; omega
              · rcases List.mem_cons.1 hx' with e2 | hx2
                · exact cfl_f fun ⟨_, a, b⟩ => by have := yt y' hy2; rw [e2] at a; omega
                · exact k1 y' hy2 x' hx2
            · rcases (k3 g).1 hg with hg | hg
              · have := xt g hg; omega
              · have := yt g hg; omega
            · rw [List.mem_cons, k3, List.mem_cons (l := xs), List.mem_cons (l := ys)]
              constructor
              · rintro (h | h | h)
                · exact .inl (.inl h)
                · exact .inl (.inr h)
                · exact .inr (.inr h)
              · rintro ((h | h) | h | h)
                · exact .inl h
                · exact .inr (.inl h)
                · exact .inl h
                · exact .inr (.inr h)
        · rw [if_neg c3]
          exact ⟨fun _ => ⟨y, List.mem_cons_self, x, List.mem_cons_self, cfl_iff.2 ⟨c3, by omega, by omega⟩⟩, fun r hr => by cases hr⟩
theorem mem_mgA {l ms : List Hk} {g : Hk} : g ∈ mgA l ms ↔ g ∈ l ∨ g ∈ ms := by
  unfold mgA newH
  rw [List.mem_append, List.mem_filter]
  constructor
  · rintro (h | h)
    · exact .inl h
    · exact .inr h.1
  · rintro (h | h)
    · exact .inl h
    · by_cases hl : g ∈ l
      · exact .inl hl
      · refine .inr ⟨h, ?_⟩
        rw [Bool.not_eq_true', ← Bool.not_eq_true, List.any_eq_true]
        rintro ⟨x, hx, e⟩
        rw [decide_eq_true_eq] at e
        exact hl (e ▸ hx)
/-- Both sides merge the same. -/
theorem mrg_mg {n p q : Int} {l ms : List Hk} (hl : RQ n p l) (hm : RQ n q ms) : (mgC l ms = true ∧ mrg l ms = none) ∨ (mgC l ms = false ∧ mrg l ms = some (srtH (mgA l ms))) := by
  obtain ⟨h1, h2⟩ := mrg_spec (l.length + ms.length) l ms p q hl hm (Nat.le_refl _)
  unfold mrg
  cases e : mrgF (l.length + ms.length) l ms with
  | none => exact .inl ⟨mgC_iff.2 (h1 e), rfl⟩
  | some r =>
    obtain ⟨k1, k2, k3⟩ := h2 r e
    have hc : mgC l ms = false := by
      rw [← Bool.not_eq_true, mgC_iff]
      rintro ⟨y, hy, x, hx, h⟩
      rw [k1 y hy x hx] at h; cases h
    refine .inr ⟨hc, ?_⟩
    rw [srtH_eq (mgA_dif hl hm hc) k2 fun g => by rw [k3, mem_mgA]]
theorem mgL_eq {o : List W} {n p q : Int} {l ms : List Hk} (hl : RQ n p l) (hm : RQ n q ms) : mgL o l ms = rmL o (mrg l ms) ∧ mgE o l ms = rmE o (mrg l ms) := by
  unfold mgL mgE
  rcases mrg_mg hl hm with ⟨h1, h2⟩ | ⟨h1, h2⟩
  · rw [h1, h2]; exact ⟨rfl, rfl⟩
  · rw [h1, h2]; exact ⟨rfl, rfl⟩
theorem mgA_len (l ms : List Hk) (k : Nat) (h1 : ∀ g ∈ l, g.ls.length ≤ k) (h2 : ∀ g ∈ ms, g.ls.length ≤ k) : (srtH (mgA l ms)).length ≤ l.length + ms.length ∧ ∀ g ∈ srtH (mgA l ms), g.ls.length ≤ k := by
  refine ⟨?_, fun g hg => ?_⟩
  · rw [srtH_len]
    unfold mgA
    rw [List.length_append]
    exact Nat.add_le_add_left (List.length_filter_le _ _) _
  · rcases mem_mgA.1 (mem_srtH.1 hg) with h | h
    · exact h1 g h
    · exact h2 g h
theorem mgL_len {o a b : List W} (ho : o.length ≤ 100) (ha : a.length ≤ 100) (hb : b.length ≤ 100) : (mgL o (lnF o a) (lnF o b)).length ≤ 1000000 := by
  obtain ⟨x1, x2⟩ := lnF_len o a
  obtain ⟨y1, y2⟩ := lnF_len o b
  obtain ⟨z1, z2⟩ := mgA_len (lnF o a) (lnF o b) 100 (fun g hg => by have := x2 g hg; omega) (fun g hg => by have := y2 g hg; omega)
  unfold mgL
  cases mgC (lnF o a) (lnF o b)
  · rw [cond_false]
    refine Nat.le_trans (applyF_len o 100 z2) ?_
    have h1 : ((srtH (mgA (lnF o a) (lnF o b))).length + 1) * o.length ≤ 203 * 100 := Nat.mul_le_mul (by omega) (by omega)
    have h2 : (srtH (mgA (lnF o a) (lnF o b))).length * 100 ≤ 202 * 100 := Nat.mul_le_mul_right _ (by omega)
    omega
  · exact Nat.zero_le _
theorem gMg_t {o a b : List W} (ho : o.length ≤ 400) (ha : a.length ≤ 400) (hb : b.length ≤ 400) : gMg o a b = true := by
  unfold gMg
  rw [Nat.ble_eq_true_of_le ho, Nat.ble_eq_true_of_le ha, Nat.ble_eq_true_of_le hb]; rfl

theorem run_DiffMerges (o a b : List W) : Runs (cfg [k_alive, k_fewA, k_Merge, k_rMerge, k_stext]) (.enter 4 [.lf (.lst 9 (eSs o)), .lf (.lst 9 (eSs a)), .lf (.lst 9 (eSs b))] []) [.bool true] := by
  refine Runs.by (lMerges_e · _ _ _) ?_
  simp only [isSs_e, dSs_e, Bool.true_and, cond_true]
  cases ho : fewF o
  · exact .ret
  cases ha : fewF a
  · exact .ret
  cases hb : fewF b
  · exact .ret
  have ho := (few_of ho).1
  have ha := (few_of ha).1
  have hb := (few_of hb).1
  obtain ⟨e1, e2⟩ := mgL_eq (o := o) (lnF_right o a) (lnF_right o b)
  have e3 : (mgL o (lnF o a) (lnF o b)).length ≤ 1000000 := mgL_len (by omega) (by omega) (by omega)
  simp only [← e1, ← e2, Bool.not_true, cond_false, gMg_t (o := o) (a := a) (b := b) (by omega) (by omega) (by omega), gLL_t e3 e3, cond_true, decide_true, beq_self_eq_true]
  exact .ret
end Go.Ab
namespace Go.Ab
open Go.Proofs

theorem td_app {α : Type} (a : List α) {i p : Nat} (h : i ≤ p) : (a.take p).drop i ++ a.drop p = a.drop i := by
  have e : a.drop p = (a.drop i).drop (p - i) := by rw [List.drop_drop]; congr 1; omega
  rw [e, List.drop_take]
  exact List.take_append_drop ..
theorem td_app3 {α : Type} (a : List α) {i p q : Nat} (h : i ≤ p) (h2 : p ≤ q) : (a.take p).drop i ++ ((a.take q).drop p ++ a.drop q) = a.drop i := by
  rw [td_app a h2, td_app a h]
theorem td_lenA {α : Type} (a : List α) (i p : Nat) (h : p ≤ a.length) : ((a.take p).drop i).length = p - i := by
  rw [List.length_drop, List.length_take, Nat.min_eq_left h]
theorem drop_app_eq {α : Type} {s t u : List α} {k : Nat} (h : s = t ++ u) (hk : k = t.length) : s.drop k = u := by
  rw [h, hk]; simp
theorem take_app_eq {α : Type} {s t u : List α} {k : Nat} (h : s = t ++ u) (hk : k = t.length) : s.take k = t := by
  rw [h, hk]; simp

theorem inv_spec (a b : List W) : ∀ (l : List Hk) (i j : Nat) (x v : Int), RQ a.length x l → -1 ≤ x → (i : Int) ≤ x + 1 → (j : Int) = i + v → j ≤ b.length → x + v ≤ b.length → b.drop j = appG a i l →
    appG b j (invG a v l) = a.drop i ∧ RQ b.length (x + v) (invG a v l) ∧ distF (invG a v l) = distF l
  | [], i, j, x, v, hr, hx, hi, hj, hb, hxv, he => ⟨he, hxv, rfl⟩
  | h :: l, i, j, x, v, hr, hx, hi, hj, hb, hxv, he => by
    obtain ⟨r1, r2, r3, r4, r5⟩ := hr
    obtain ⟨fr, to, ls⟩ := h
    simp only at r1 r2 r3 r4 r5
    obtain ⟨p, rfl⟩ : ∃ p : Nat, fr = p := ⟨fr.toNat, by omega⟩
    obtain ⟨q, rfl⟩ : ∃ q : Nat, to = q := ⟨to.toNat, by omega⟩
    rw [appG] at he
    simp only [Int.toNat_natCast] at he
    have hl1 : ((a.take p).drop i).length = p - i := td_lenA a i p (by omega)
    have hlen := congrArg List.length he
    rw [List.length_drop, List.length_append, List.length_append, hl1] at hlen
    have e1 : (b.drop j).take (p - i) = (a.take p).drop i := take_app_eq he hl1.symm
    have e2 : b.drop (j + (p - i) + ls.length) = appG a q l := by
      rw [← List.append_assoc] at he
      have := drop_app_eq (k := (p - i) + ls.length) he (by rw [List.length_append, hl1])
      rw [List.drop_drop] at this
      rw [← this]; congr 1; omega
    obtain ⟨i1, i2, i3⟩ := inv_spec a b l q (j + (p - i) + ls.length) q (v + ((ls.length : Nat) - ((q : Int) - p))) r5 (by omega) (by omega) (by omega) (by omega) (by omega) e2
    rw [invG]
    simp only [Int.toNat_natCast]
    have t1 : ((p : Int) + v).toNat = j + (p - i) := by omega
    have t2 : ((p : Int) + v + (ls.length : Nat)).toNat = j + (p - i) + ls.length := by omega
    have hl2 : ((a.take q).drop p).length = q - p := td_lenA a p q (by omega)
    refine ⟨?_, ⟨by show x + v < (p : Int) + v; omega, by show (p : Int) + v ≤ (p : Int) + v + (ls.length : Nat); omega, by show (p : Int) + v + (ls.length : Nat) ≤ (b.length : Nat); omega, fun ⟨c1, c2⟩ => ?_, ?_⟩, ?_⟩
    · rw [appG]
      simp only [t1, t2]
      rw [i1, List.drop_take, show j + (p - i) - j = p - i by omega, e1]
      exact td_app3 a (by omega) (by omega)
    · have c1 : (p : Int) + v = (p : Int) + v + (ls.length : Nat) := c1
      have c2 : ((a.take q).drop p).length = 0 := congrArg List.length c2
      exact r4 ⟨by omega, List.eq_nil_of_length_eq_zero (by omega)⟩
    · have e : (q : Int) + (v + ((ls.length : Nat) - ((q : Int) - p))) = (p : Int) + v + (ls.length : Nat) := by omega
      rw [e] at i2
      exact i2
    · simp only [distF, hl2, i3]
      omega

theorem appG_step (a : List W) {p : Nat} (hp : p < a.length) : ∀ (l : List Hk), (∀ g ∈ l, (p : Int) < g.fr) → appG a p l = a.getD p [] :: appG a (p + 1) l
  | [], _ => by rw [appG, appG]; exact drop_at [] hp
  | h :: l, hh => by
    have h0 := hh h List.mem_cons_self
    rw [appG, appG]
    have e : p < (a.take h.fr.toNat).length := by rw [List.length_take]; omega
    rw [drop_at (l := a.take h.fr.toNat) [] e, List.cons_append]
    congr 1
    simp only [List.getD_eq_getElem?_getD]
    rw [List.getElem?_take_of_lt (by omega)]
theorem gaps_app (a b : List W) : ∀ (ps : List (Nat × Nat)) (x y : Nat), Chain a.length b.length x y ps → (∀ p ∈ ps, a.getD p.1 [] = b.getD p.2 []) →
    appG a x (gapsF b a.length b.length x y ps) = b.drop y
  | [], x, y, hc, he => by
    obtain ⟨h1, h2⟩ := hc
    rw [gapsF]
    unfold gap1
    split
    · rw [appG, appG]
      simp only [Int.toNat_natCast]
      rw [List.take_length, List.drop_length, List.append_nil, drop_end (l := a.take x) (by rw [List.length_take]; omega), List.nil_append]
    · rw [appG, drop_end (by omega), drop_end (by omega)]
  | p :: ps, x, y, hc, he => by
    obtain ⟨h1, h2, h3, h4, h5⟩ := hc
    have ih := gaps_app a b ps (p.1 + 1) (p.2 + 1) h5 fun g hg => he g (List.mem_cons_of_mem _ hg)
    have hr := RQ_mem (gaps_right ps (p.1 + 1) (p.2 + 1) h5)
    have e1 : appG a p.1 (gapsF b a.length b.length (p.1 + 1) (p.2 + 1) ps) = b.drop p.2 := by
      rw [appG_step a h3 _ fun g hg => by have := hr g hg; omega, ih, he p List.mem_cons_self, ← drop_at [] h4]
    rw [gapsF]
    unfold gap1
    split
    · rw [List.singleton_append, appG]
      simp only [Int.toNat_natCast]
      rw [e1, drop_end (l := a.take x) (by rw [List.length_take]; omega), List.nil_append]
      exact td_app b h2
    · have : x = p.1 := by omega
      have : y = p.2 := by omega
      subst x
      subst y
      exact e1
theorem comF_eq {a b : List W} : ∀ m i j : Nat, i + m = a.length → j ≤ b.length → ∀ p ∈ comF (a.drop i) i j (b.drop j), a.getD p.1 [] = b.getD p.2 []
  | 0, i, j, h, hj, p, hp => by
    rw [drop_end (by omega), comF_end] at hp
    cases hp
  | m + 1, i, j, h, hj, p, hp => by
    by_cases hz : lv a b i j = 0
    · rw [comF_zero (by unfold lv at hz; omega)] at hp
      cases hp
    · rw [comF_step (by omega) hj hz] at hp
      split at hp
      · rename_i hc
        rcases List.mem_cons.1 hp with rfl | hp
        · have hd := idx_eq (a.getD i []) (b.drop j) (by rw [List.length_drop]; omega)
          rw [getD_dropW] at hd
          exact hd.symm
        · exact comF_eq m (i + 1) _ (by omega) (by omega) p hp
      · exact comF_eq m (i + 1) j (by omega) hj p hp
theorem lnF_app (a b : List W) : appG a 0 (lnF a b) = b := by
  have hc := comF_chain (a := a) (b := b) a.length 0 0 0 0 (by omega) (by omega) (Nat.le_refl _) (Nat.le_refl _)
  have he := comF_eq (a := a) (b := b) a.length 0 0 (by omega) (by omega)
  rw [List.drop_zero, List.drop_zero] at hc he
  exact (gaps_app a b _ 0 0 hc he).trans (List.drop_zero ..)
theorem lnF_rightF (a b : List W) : rightF (lnF a b) (a.length : Nat) = 0 := (rightF_iff (by omega)).2 (lnF_right a b)
theorem lnF_apply (a b : List W) : applyF a (lnF a b) = b := by
  unfold applyF
  rw [lnF_rightF, lnF_app]; rfl
theorem inv_back {a b : List W} {l : List Hk} (h : RQ a.length (-1) l) (hb : appG a 0 l = b) : rightF (invF a l) (b.length : Nat) = 0 ∧ applyF b (invF a l) = a ∧ distF (invF a l) = distF l ∧ RQ b.length (-1) (invF a l) := by
  obtain ⟨h1, h2, h3⟩ := inv_spec a b l 0 0 (-1) 0 h (by omega) (by omega) (by omega) (by omega) (by omega) (by rw [List.drop_zero, hb])
  have e : invF a l = invG a 0 l := by
    unfold invF
    rw [(rightF_iff (by omega)).2 h]; rfl
  have h2 : RQ b.length (-1) (invG a 0 l) := h2
  have hr : rightF (invG a 0 l) (b.length : Nat) = 0 := (rightF_iff (by omega)).2 h2
  rw [e]
  refine ⟨hr, ?_, h3, h2⟩
  unfold applyF
  rw [hr, h1]; rfl

theorem run_DiffBack (a b : List W) : Runs (cfg [k_alive, k_fewA, k_Lines, k_apply, k_right, k_stext, k_inv, k_dist]) (.enter 10 [.lf (.lst 9 (eSs a)), .lf (.lst 9 (eSs b))] []) [.bool true] := by
  refine Runs.by (lBack_e · _ _) ?_
  simp only [isSs_e, isHs_e, dSs_e, dHs_e, Bool.true_and, cond_true]
  cases ha : fewF a
  · exact .ret
  cases hb : fewF b
  · exact .ret
  have ha := (few_of ha).1
  have hb := (few_of hb).1
  obtain ⟨l1, l2⟩ := lnF_len a b
  obtain ⟨i1, i2⟩ := invF_len a (lnF a b)
  obtain ⟨b1, b2, b3, b4⟩ := inv_back (lnF_right a b) (lnF_app a b)
  have g1 : gAp a (lnF a b) = true := gAp_t (by omega) (by omega) fun g hg => by have := l2 g hg; omega
  have g2 : gAp b (invF a (lnF a b)) = true := gAp_t (by omega) (by omega) fun g hg => by have := i2 g hg; omega
  have g3 : gDi (invF a (lnF a b)) = true := RQ_di b4 (Int.le_refl _) (by omega) (by omega) fun g hg => by have := i2 g hg; omega
  have g4 : sm (lnF a b).length = true := sm_t (by omega)
  simp only [eSs_len, Bool.not_true, cond_false, gL5_t (a := a) (b := b) (by omega) (by omega), g1, g2, g3, g4, lnF_di (a := a) (b := b) (by omega) (by omega), lnF_rightF, lnF_apply, b1, b2, b3,
    gLL_t (a := b) (b := b) (by omega) (by omega), gLL_t (a := a) (b := a) (by omega) (by omega), cond_true, decide_true, beq_self_eq_true, bne_self_eq_false]
  exact .ret
end Go.Ab
namespace Go.Ab
open Go.Proofs

theorem lcs_symm : ∀ a b : List W, lcs a b = lcs b a
  | [], b => by rw [lcs_nil, lcs_nil']
  | x :: a, b => by
    induction b with
    | nil => rw [lcs_nil, lcs_nil']
    | cons y b ih =>
      by_cases e : x = y
      · rw [lcs_eq x y a b e, lcs_eq y x b a e.symm, lcs_symm a b]
      · rw [lcs_ne x y a b e, lcs_ne y x b a (fun h => e h.symm), lcs_symm a (y :: b), ih, Nat.max_comm]
theorem lcs_pre (u a b : List W) : lcs (u ++ a) (u ++ b) = u.length + lcs a b := by
  induction u with
  | nil => simp
  | cons x u ih =>
    rw [List.cons_append, List.cons_append, lcs_eq x x _ _ rfl, ih, List.length_cons]; omega
theorem lcs_pre1 (u a b : List W) : lcs a b ≤ lcs (u ++ a) b := by
  induction u with
  | nil => exact Nat.le_refl _
  | cons x u ih => exact Nat.le_trans ih (lcs_m1 x _ _)
theorem lcs_pre2 (u a b : List W) : lcs a b ≤ lcs a (u ++ b) := by
  induction u with
  | nil => exact Nat.le_refl _
  | cons x u ih => exact Nat.le_trans ih (lcs_m2 x _ _)
theorem lcs_idx (x : W) (a : List W) : ∀ b : List W, lcs (x :: a) b = lcs a b ∨ (idx x b < b.length ∧ lcs a (b.drop (idx x b + 1)) + 1 = lcs (x :: a) b)
  | [] => by rw [lcs_nil', lcs_nil']; exact .inl rfl
  | y :: b => by
    by_cases e : y = x
    · rw [lcs_eq x y a b e.symm, idx, if_pos e]
      exact .inr ⟨by simp, by rw [Nat.zero_add, List.drop_succ_cons, List.drop_zero]⟩
    · rw [lcs_ne x y a b (fun h => e h.symm), idx, if_neg e, List.drop_succ_cons, List.length_cons]
      have h2 := lcs_m2 y a b
      rcases lcs_idx x a b with h | ⟨h, h'⟩
      · rw [h]; exact .inl (Nat.max_eq_left h2)
      · rcases Nat.le_total (lcs a (y :: b)) (lcs (x :: a) b) with c | c
        · rw [Nat.max_eq_right c]; exact .inr ⟨by omega, h'⟩
        · rw [Nat.max_eq_left c]; exact .inl rfl
theorem comF_lcs : ∀ (a : List W) (i j : Nat) (b : List W), (comF a i j b).length = lcs a b
  | [], i, j, b => rfl
  | x :: a, i, j, b => by
    rw [comF]
    split
    · rename_i h; rw [h]; rfl
    · split
      · rename_i h
        rw [List.length_cons, comF_lcs a _ _ _]; exact h.2
      · rename_i h
        rw [comF_lcs a _ _ _]
        rcases lcs_idx x a b with k | k
        · exact k.symm
        · exact absurd k h
theorem distF_app (l m : List Hk) : distF (l ++ m) = distF l + distF m := by
  induction l with
  | nil => simp [distF]
  | cons h l ih => rw [List.cons_append]; simp only [distF, ih]; omega
theorem gap1_dist (b : List W) {x y p q : Nat} (h1 : x ≤ p) (h2 : y ≤ q) (hq : q ≤ b.length) : distF (gap1 b x y p q) = ((p : Int) - x) + ((q : Int) - y) := by
  unfold gap1
  split
  · simp only [distF, td_len b y q hq]; omega
  · simp only [distF]; omega
theorem gaps_dist (b : List W) (n : Nat) : ∀ (ps : List (Nat × Nat)) (x y : Nat), Chain n b.length x y ps → distF (gapsF b n b.length x y ps) = ((n : Int) - x) + ((b.length : Nat) - y) - 2 * (ps.length : Nat)
  | [], x, y, hc => by
    rw [gapsF, gap1_dist b hc.1 hc.2 (Nat.le_refl _)]; simp
  | p :: ps, x, y, hc => by
    obtain ⟨h1, h2, h3, h4, h5⟩ := hc
    rw [gapsF, distF_app, gap1_dist b h1 h2 (by omega), gaps_dist b n ps _ _ h5, List.length_cons]; omega
theorem lnF_dist (a b : List W) : distF (lnF a b) = (a.length : Nat) + (b.length : Nat) - 2 * (lcs a b : Nat) := by
  have hc := comF_chain (a := a) (b := b) a.length 0 0 0 0 (by omega) (by omega) (Nat.le_refl _) (Nat.le_refl _)
  rw [List.drop_zero, List.drop_zero] at hc
  have := gaps_dist b a.length _ 0 0 hc
  rw [comF_lcs] at this
  unfold lnF
  omega
theorem dist_least (a : List W) : ∀ (l : List Hk) (i : Nat) (x : Int), RQ a.length x l → -1 ≤ x → (i : Int) ≤ x + 1 → i ≤ a.length →
    (((a.drop i).length : Nat) : Int) + ((appG a i l).length : Nat) - 2 * (lcs (a.drop i) (appG a i l) : Nat) ≤ distF l
  | [], i, x, hr, hx, hi, hn => by
    rw [appG]
    have := lcs_pre (a.drop i) [] []
    rw [List.append_nil, lcs_nil] at this
    rw [this]
    simp only [distF]; omega
  | h :: l, i, x, hr, hx, hi, hn => by
    obtain ⟨r1, r2, r3, r4, r5⟩ := hr
    obtain ⟨fr, to, ls⟩ := h
    simp only at r1 r2 r3 r4 r5
    obtain ⟨p, rfl⟩ : ∃ p : Nat, fr = p := ⟨fr.toNat, by omega⟩
    obtain ⟨q, rfl⟩ : ∃ q : Nat, to = q := ⟨to.toNat, by omega⟩
    have ih := dist_least a l q q r5 (by omega) (by omega) (by omega)
    have e := td_app3 a (i := i) (p := p) (q := q) (by omega) (by omega)
    rw [appG]
    simp only [Int.toNat_natCast, distF]
    have h1 := lcs_pre ((a.take p).drop i) ((a.take q).drop p ++ a.drop q) (ls ++ appG a q l)
    have h2 := lcs_pre1 ((a.take q).drop p) (a.drop q) (ls ++ appG a q l)
    have h3 := lcs_pre2 ls (a.drop q) (appG a q l)
    have l1 := td_lenA a i p (by omega)
    have l2 := td_lenA a p q (by omega)
    rw [e] at h1
    rw [h1, List.length_append, List.length_append, l1]
    simp only [List.length_drop] at ih ⊢
    omega
theorem dist_nonneg {n : Int} : ∀ {l : List Hk} {x : Int}, RQ n x l → 0 ≤ distF l
  | [], x, h => Int.le_refl _
  | h :: l, x, hr => by
    have := dist_nonneg hr.2.2.2.2
    have := hr.2.1
    simp only [distF]; omega
theorem dist_zero {n : Int} {l : List Hk} {x : Int} (hr : RQ n x l) (h : distF l = 0) : l = [] := by
  cases l with
  | nil => rfl
  | cons g l =>
    have h1 := dist_nonneg hr.2.2.2.2
    have h2 := hr.2.1
    simp only [distF] at h
    exact absurd ⟨by omega, List.eq_nil_of_length_eq_zero (by omega)⟩ hr.2.2.2.1
theorem lnF_self (a : List W) : lnF a a = [] := by
  refine dist_zero (lnF_right a a) ?_
  have := lcs_pre a [] []
  rw [List.append_nil, lcs_nil] at this
  rw [lnF_dist, this]; omega

theorem run_DiffLeast (a : List W) (l : List Hk) : Runs (cfg [k_alive, k_fewA, k_hunksA, k_apply, k_Lines, k_dist]) (.enter 6 [.lf (.lst 9 (eSs a)), .lf (.lst 46 (eHs l))] []) [.bool true] := by
  refine Runs.by (lLeast_e · _ _) ?_
  simp only [isSs_e, isHs_e, dSs_e, dHs_e, Bool.true_and, cond_true]
  cases ha : fewF a
  · exact .ret
  cases hl : hunksF l
  · exact .ret
  have ha := (few_of ha).1
  obtain ⟨hl, hs⟩ := hunksF_of hl
  have g1 : gAp a l = true := gAp_t (by omega) (by omega) fun g hg => by have := (hs g hg).1; omega
  simp only [Bool.not_true, cond_false, g1, cond_true]
  by_cases hr : rightF l (a.length : Nat) = 0
  · have hq := (rightF_iff (by omega)).1 hr
    have g3 : (applyF a l).length ≤ 1000000 := by
      refine Nat.le_trans (applyF_len a 40 fun g hg => (hs g hg).1) ?_
      have h1 : (l.length + 1) * a.length ≤ 41 * 40 := Nat.mul_le_mul (by omega) (by omega)
      have h2 : l.length * 40 ≤ 40 * 40 := Nat.mul_le_mul_right _ hl
      omega
    simp only [hr, bne_self_eq_false, cond_false]
    cases hb : fewF (applyF a l)
    · exact .ret
    have hb := (few_of hb).1
    have e : applyF a l = appG a 0 l := by
      unfold applyF
      rw [hr]; rfl
    have g4 : gDi l = true := RQ_di hq (Int.le_refl _) (by omega) (by omega) fun g hg => by have := (hs g hg).1; omega
    have h1 : distF (lnF a (applyF a l)) ≤ distF l := by
      have := dist_least a l 0 (-1) hq (Int.le_refl _) (by omega) (by omega)
      rw [List.drop_zero, ← e] at this
      rw [lnF_dist]; exact this
    have h2 : distF (lnF a (applyF a l)) = distF (lnF (applyF a l) a) := by
      rw [lnF_dist, lnF_dist, lcs_symm]; omega
    simp only [Bool.not_true, cond_false, gL5_t (a := a) (b := applyF a l) (by omega) (by omega), gL5_t (a := applyF a l) (b := a) (by omega) (by omega), gL5_t (a := a) (b := a) (by omega) (by omega),
      lnF_di (a := a) (b := applyF a l) (by omega) (by omega), lnF_di (a := applyF a l) (b := a) (by omega) (by omega), g4, ev_le_t h1, ← h2, lnF_self, cond_true, beq_self_eq_true]
    exact .ret
  · have : (rightF l (a.length : Nat) != 0) = true := by simpa using hr
    simp only [this, cond_true]
    exact .ret
end Go.Ab
namespace Go.Ab
open Go.Proofs

/-! ### one side or both the same; whichever is first -/
theorem mrgF_self {n : Int} : ∀ (f : Nat) (l : List Hk) (p : Int), RQ n p l → l.length ≤ f → mrgF f l l = some l
  | f, [], p, h, hf => mrgF_nil f []
  | 0, x :: l, p, h, hf => by simp at hf
  | f + 1, x :: l, p, h, hf => by
    have h0 := h.2.1
    rw [mrgF, if_neg (by omega), if_neg (by omega), if_pos rfl, mrgF_self f l x.to h.2.2.2.2 (by simpa using hf)]
theorem mrgF_symm {n : Int} : ∀ (f : Nat) (xs ys : List Hk) (p q : Int), RQ n p xs → RQ n q ys → mrgF f xs ys = mrgF f ys xs
  | f, [], ys, p, q, hx, hy => by rw [mrgF_nil, mrgF_nil']
  | f, x :: xs, [], p, q, hx, hy => by rw [mrgF_nil, mrgF_nil']
  | 0, x :: xs, y :: ys, p, q, hx, hy => rfl
  | f + 1, x :: xs, y :: ys, p, q, hx, hy => by
    have x0 := hx.2.1
    have y0 := hy.2.1
    rw [mrgF, mrgF]
    by_cases c1 : x.to < y.fr
    · rw [if_pos c1, if_neg (by omega), if_pos c1, mrgF_symm f xs (y :: ys) x.to q hx.2.2.2.2 hy]
    · rw [if_neg c1]
      by_cases c2 : y.to < x.fr
      · rw [if_pos c2, if_pos c2, mrgF_symm f (x :: xs) ys p y.to hx hy.2.2.2.2]
      · rw [if_neg c2, if_neg c2, if_neg c1]
        by_cases c3 : x = y
        · subst c3
          rw [if_pos rfl, if_pos rfl, mrgF_symm f xs ys x.to x.to hx.2.2.2.2 hy.2.2.2.2]
        · rw [if_neg c3, if_neg fun h => c3 h.symm]
theorem mrg_symm {n p q : Int} {xs ys : List Hk} (hx : RQ n p xs) (hy : RQ n q ys) : mrg xs ys = mrg ys xs := by
  unfold mrg
  rw [mrgF_symm _ xs ys p q hx hy, Nat.add_comm]
theorem mrgF_apart : ∀ (f : Nat) (xs ys : List Hk), xs.length ≤ f → (∀ x ∈ xs, ∀ y ∈ ys, x.to < y.fr) → mrgF f xs ys = some (xs ++ ys)
  | f, [], ys, hf, h => mrgF_nil' f ys
  | f, x :: xs, [], hf, h => by rw [mrgF_nil, List.append_nil]
  | 0, x :: xs, y :: ys, hf, h => by simp at hf
  | f + 1, x :: xs, y :: ys, hf, h => by
    rw [mrgF, if_pos (h x List.mem_cons_self y List.mem_cons_self), mrgF_apart f xs (y :: ys) (by simpa using hf) fun x hx => h x (List.mem_cons_of_mem _ hx)]
    rfl

/-! ### common ends -/
def diag : Nat → Nat → Nat → List (Nat × Nat)
  | _, _, 0 => []
  | i, j, t + 1 => (i, j) :: diag (i + 1) (j + 1) t
theorem lcs_self (a : List W) : lcs a a = a.length := by
  have := lcs_pre a [] []
  rw [List.append_nil, lcs_nil] at this
  omega
theorem lcs_suf (T : List W) : ∀ X Y : List W, lcs (X ++ T) (Y ++ T) = lcs X Y + T.length
  | [], Y => by
    rw [List.nil_append, lcs_nil]
    have h1 := lcs_le T (Y ++ T)
    have h2 := lcs_pre2 Y T T
    rw [lcs_self] at h2
    omega
  | x :: X, [] => by
    rw [List.nil_append, lcs_nil']
    have h1 := lcs_le T (x :: X ++ T)
    have h2 := lcs_pre2 (x :: X) T T
    rw [lcs_self] at h2
    rw [lcs_symm]
    omega
  | x :: X, y :: Y => by
    rw [List.cons_append, List.cons_append]
    by_cases e : x = y
    · rw [lcs_eq x y _ _ e, lcs_eq x y _ _ e, lcs_suf T X Y]; omega
    · have i1 := lcs_suf T X (y :: Y)
      have i2 := lcs_suf T (x :: X) Y
      rw [List.cons_append] at i1 i2
      rw [lcs_ne x y _ _ e, lcs_ne x y _ _ e, i1, i2]
      omega
theorem idx_app (x : W) (T : List W) : ∀ Y : List W, idx x (Y ++ T) = if idx x Y < Y.length then idx x Y else Y.length + idx x T
  | [] => by simp [idx]
  | y :: Y => by
    rw [List.cons_append, idx, idx]
    by_cases e : y = x
    · rw [if_pos e, if_pos e, if_pos (by simp)]
    · rw [if_neg e, if_neg e, idx_app x T Y, List.length_cons]
      by_cases c : idx x Y < Y.length
      · rw [if_pos c, if_pos (by omega)]
      · rw [if_neg c, if_neg (by omega)]; omega
theorem idx_not (x : W) : ∀ Y : List W, x ∉ Y → idx x Y = Y.length
  | [], _ => rfl
  | y :: Y, h => by
    rw [idx, if_neg (fun e => h (by rw [e]; exact List.mem_cons_self)), idx_not x Y (fun e => h (List.mem_cons_of_mem _ e))]; rfl
theorem comF_self : ∀ (U : List W) (i j : Nat), comF U i j U = diag i j U.length
  | [], i, j => rfl
  | u :: U, i, j => by
    rw [comF, if_neg (by rw [lcs_self]; simp), idx, if_pos rfl, if_pos ⟨by simp, by rw [Nat.zero_add, List.drop_succ_cons, List.drop_zero, lcs_self, lcs_self]; rfl⟩,
      Nat.zero_add, List.drop_succ_cons, List.drop_zero, Nat.add_zero, comF_self U, List.length_cons, diag]
theorem comF_pre (X V : List W) : ∀ (U : List W) (i j : Nat), comF (U ++ X) i j (U ++ V) = diag i j U.length ++ comF X (i + U.length) (j + U.length) V
  | [], i, j => rfl
  | u :: U, i, j => by
    rw [List.cons_append, List.cons_append, comF, if_neg (by rw [lcs_eq u u _ _ rfl]; omega), idx, if_pos rfl, if_pos ⟨by simp, by rw [Nat.zero_add, List.drop_succ_cons, List.drop_zero, lcs_eq u u _ _ rfl]⟩,
      Nat.zero_add, List.drop_succ_cons, List.drop_zero, Nat.add_zero, comF_pre X V U, List.length_cons, diag, List.cons_append]
    have e1 : i + 1 + U.length = i + (U.length + 1) := by omega
    have e2 : j + 1 + U.length = j + (U.length + 1) := by omega
    rw [e1, e2]
theorem comF_suf (m : W) (T : List W) : ∀ (X : List W) (i j : Nat) (Y : List W), m ∉ X → m ∉ Y →
    ∃ P, comF (X ++ m :: T) i j (Y ++ m :: T) = P ++ diag (i + X.length) (j + Y.length) (T.length + 1) ∧ ∀ p ∈ P, p.1 < i + X.length ∧ p.2 < j + Y.length
  | [], i, j, Y, hX, hY => by
    have e0 : lcs (m :: T) (Y ++ m :: T) = T.length + 1 := by
      have := lcs_suf (m :: T) [] Y
      rw [List.nil_append, lcs_nil, List.length_cons] at this
      omega
    have e1 : idx m (Y ++ m :: T) = Y.length := by
      rw [idx_app, idx_not m Y hY, if_neg (Nat.lt_irrefl _), idx, if_pos rfl]; rfl
    have e2 : (Y ++ m :: T).drop (Y.length + 1) = T := by
      rw [List.drop_append]
      simp
    refine ⟨[], ?_, fun p hp => (by cases hp)⟩
    rw [List.nil_append, comF, e0, if_neg (by omega), e1, e2, if_pos ⟨by simp, by rw [lcs_self]⟩, comF_self]
    rfl
  | x :: X, i, j, Y, hX, hY => by
    have hX' : m ∉ X := fun h => hX (List.mem_cons_of_mem _ h)
    have e0 := lcs_suf (m :: T) (x :: X) Y
    rw [List.cons_append, List.length_cons] at e0
    rw [List.cons_append, comF, if_neg (by omega)]
    by_cases hy : idx x Y < Y.length
    · have e1 : idx x (Y ++ m :: T) = idx x Y := by rw [idx_app, if_pos hy]
      have e2 : (Y ++ m :: T).drop (idx x Y + 1) = Y.drop (idx x Y + 1) ++ m :: T := by
        rw [List.drop_append, show idx x Y + 1 - Y.length = 0 by omega, List.drop_zero]
      rw [e1, e2]
      split
      · obtain ⟨P, h1, h2⟩ := comF_suf m T X (i + 1) (j + idx x Y + 1) (Y.drop (idx x Y + 1)) hX' (fun h => hY (List.mem_of_mem_drop h))
        have hl : (Y.drop (idx x Y + 1)).length = Y.length - (idx x Y + 1) := List.length_drop ..
        rw [hl] at h1 h2
        refine ⟨(i, j + idx x Y) :: P, ?_, fun p hp => ?_⟩
        · rw [h1, List.length_cons, List.cons_append]
          have k1 : i + 1 + X.length = i + (X.length + 1) := by omega
          have k2 : j + idx x Y + 1 + (Y.length - (idx x Y + 1)) = j + Y.length := by omega
          rw [k1, k2]
        · rw [List.length_cons]
          rcases List.mem_cons.1 hp with rfl | hp
          · exact ⟨by show i < _; omega, by show j + idx x Y < _; omega⟩
          · have := h2 p hp
            omega
      · obtain ⟨P, h1, h2⟩ := comF_suf m T X (i + 1) j Y hX' hY
        refine ⟨P, ?_, fun p hp => ?_⟩
        · rw [h1, List.length_cons]
          have k1 : i + 1 + X.length = i + (X.length + 1) := by omega
          rw [k1]
        · have := h2 p hp
          rw [List.length_cons]; omega
    · have hne : m ≠ x := fun e => hX (by rw [e]; exact List.mem_cons_self)
      have e1 : idx x (Y ++ m :: T) = Y.length + (idx x T + 1) := by rw [idx_app, if_neg hy, idx, if_neg hne]
      rw [if_neg]
      · obtain ⟨P, h1, h2⟩ := comF_suf m T X (i + 1) j Y hX' hY
        refine ⟨P, ?_, fun p hp => ?_⟩
        · rw [h1, List.length_cons]
          have k1 : i + 1 + X.length = i + (X.length + 1) := by omega
          rw [k1]
        · have := h2 p hp
          rw [List.length_cons]; omega
      · rintro ⟨c1, c2⟩
        rw [e1] at c1 c2
        have k := lcs_le ((Y ++ m :: T).drop (Y.length + (idx x T + 1) + 1)) (X ++ m :: T)
        rw [lcs_symm] at k
        rw [List.length_drop] at k
        simp only [List.length_append, List.length_cons] at k c1
        omega

/-! ### the gaps -/
theorem gaps_diag (b : List W) {n m : Nat} : ∀ (t x y : Nat), n = x + t → m = y + t → gapsF b n m x y (diag x y t) = []
  | 0, x, y, hn, hm => by
    rw [diag, gapsF, gap1, if_neg (by omega)]
  | t + 1, x, y, hn, hm => by
    rw [diag, gapsF, gap1, if_neg (by show ¬(x < x ∨ y < y); omega), List.nil_append]
    exact gaps_diag b t (x + 1) (y + 1) (by omega) (by omega)
theorem gaps_suf (b : List W) {n m n' m' t : Nat} (ht : 0 < t) (hn : n = n' + t) (hm : m = m' + t) : ∀ (P : List (Nat × Nat)) (x y : Nat), (∀ p ∈ P, p.1 < n') →
    ∀ h ∈ gapsF b n m x y (P ++ diag n' m' t), h.to ≤ n'
  | [], x, y, hP, h, hh => by
    obtain ⟨s, rfl⟩ : ∃ s, t = s + 1 := ⟨t - 1, by omega⟩
    rw [List.nil_append, diag, gapsF, gaps_diag b s _ _ (by show _ = n' + 1 + s; omega) (by show _ = m' + 1 + s; omega), List.append_nil] at hh
    unfold gap1 at hh
    split at hh
    · rw [List.mem_singleton.1 hh]; exact Int.le_refl _
    · cases hh
  | p :: P, x, y, hP, h, hh => by
    rw [List.cons_append, gapsF] at hh
    rcases List.mem_append.1 hh with hh | hh
    · have := hP p List.mem_cons_self
      unfold gap1 at hh
      split at hh
      · rw [List.mem_singleton.1 hh]
        show ((p.1 : Nat) : Int) ≤ n'
        omega
      · cases hh
    · exact gaps_suf b ht hn hm P _ _ (fun p hp => hP p (List.mem_cons_of_mem _ hp)) h hh
theorem gaps_pre (b : List W) (n m : Nat) (Q : List (Nat × Nat)) : ∀ (t x y : Nat), gapsF b n m x y (diag x y t ++ Q) = gapsF b n m (x + t) (y + t) Q
  | 0, x, y => rfl
  | t + 1, x, y => by
    rw [diag, List.cons_append, gapsF, gap1, if_neg (by show ¬(x < x ∨ y < y); omega), List.nil_append, gaps_pre b n m Q t]
    have e1 : x + 1 + t = x + (t + 1) := by omega
    have e2 : y + 1 + t = y + (t + 1) := by omega
    rw [e1, e2]
theorem lnF_suf {m : W} (T : List W) {X Y : List W} (hX : m ∉ X) (hY : m ∉ Y) : ∀ h ∈ lnF (X ++ m :: T) (Y ++ m :: T), h.to ≤ (X.length : Nat) := by
  obtain ⟨P, h1, h2⟩ := comF_suf m T X 0 0 Y hX hY
  rw [Nat.zero_add, Nat.zero_add] at h1
  unfold lnF
  rw [h1]
  exact gaps_suf _ (Nat.succ_pos _) (by rw [List.length_append, List.length_cons]) (by rw [List.length_append, List.length_cons]) P 0 0 fun p hp => by have := (h2 p hp).1; omega
theorem lnF_pre (U X V : List W) : ∀ h ∈ lnF (U ++ X) (U ++ V), (U.length : Int) ≤ h.fr := by
  have hc := comF_chain (a := U ++ X) (b := U ++ V) X.length U.length U.length U.length U.length (by rw [List.length_append]) (by rw [List.length_append]; omega) (Nat.le_refl _) (Nat.le_refl _)
  rw [List.drop_left, List.drop_left] at hc
  have hr := RQ_mem (gaps_right _ _ _ hc)
  unfold lnF
  rw [comF_pre, gaps_pre, Nat.zero_add]
  exact fun h hh => by have := hr h hh; omega

/-! ### hunks one behind the other -/
theorem RQ_up {n : Int} {x y : Int} {l : List Hk} (h : RQ n x l) (hy : y ≤ n) (hl : ∀ g ∈ l, y < g.fr) : RQ n y l := by
  cases l with
  | nil => exact hy
  | cons g l => exact ⟨hl g List.mem_cons_self, h.2⟩
theorem RQ_app {n : Int} {r : List Hk} {p : Int} (hr : RQ n p r) : ∀ {l : List Hk} {x : Int}, RQ n x l → (∀ g ∈ r, x < g.fr) → (∀ h ∈ l, ∀ g ∈ r, h.to < g.fr) → RQ n x (l ++ r)
  | [], _, hl, hx, _ => RQ_up hr hl hx
  | g :: _, _, hl, _, h => ⟨hl.1, hl.2.1, hl.2.2.1, hl.2.2.2.1, RQ_app hr hl.2.2.2.2 (h g List.mem_cons_self) fun g' hg' => h g' (List.mem_cons_of_mem _ hg')⟩
theorem td_join {α : Type} (a : List α) {i p q : Nat} (h : i ≤ p) (h2 : p ≤ q) : (a.take p).drop i ++ (a.take q).drop p = (a.take q).drop i := by
  have := td_app (a.take q) h
  rw [List.take_take, Nat.min_eq_left h2] at this
  exact this
theorem appG_split (A : List W) {p : Nat} (hp : p ≤ A.length) : ∀ (l : List Hk) (i : Nat) (x : Int), RQ A.length x l → -1 ≤ x → (i : Int) ≤ x + 1 → i ≤ p → (∀ h ∈ l, h.to ≤ p) →
    ∃ u, ∀ r : List Hk, (∀ g ∈ r, (p : Int) ≤ g.fr) → appG A i (l ++ r) = u ++ appG A p r
  | [], i, x, hr, hx, hi, hip, hl => ⟨(A.take p).drop i, fun r hr => by
    rw [List.nil_append]
    cases r with
    | nil => rw [appG, appG]; exact (td_app A hip).symm
    | cons g r =>
      have := hr g List.mem_cons_self
      rw [appG, appG, ← td_join A hip (show p ≤ g.fr.toNat by omega), List.append_assoc]⟩
  | h :: l, i, x, hr, hx, hi, hip, hl => by
    obtain ⟨r1, r2, r3, r4, r5⟩ := hr
    have h0 := hl h List.mem_cons_self
    obtain ⟨u, hu⟩ := appG_split A hp l h.to.toNat h.to r5 (by omega) (by omega) (by omega) fun g hg => hl g (List.mem_cons_of_mem _ hg)
    refine ⟨(A.take h.fr.toNat).drop i ++ (h.ls ++ u), fun r hr => ?_⟩
    rw [List.cons_append, appG, hu r hr]
    simp only [List.append_assoc]
/-- Changes that are far from each other. -/
theorem merge_far {m1 m2 : W} {o a b : List W} (h1 : m1 ∉ o) (h2 : m1 ∉ a) :
    mgE ((o ++ [m1, m2]) ++ o) (lnF ((o ++ [m1, m2]) ++ o) ((a ++ [m1, m2]) ++ o)) (lnF ((o ++ [m1, m2]) ++ o) ((o ++ [m1, m2]) ++ b)) = 0 ∧
    mgL ((o ++ [m1, m2]) ++ o) (lnF ((o ++ [m1, m2]) ++ o) ((a ++ [m1, m2]) ++ o)) (lnF ((o ++ [m1, m2]) ++ o) ((o ++ [m1, m2]) ++ b)) = (a ++ [m1, m2]) ++ b := by
  have q1 : ∀ h ∈ lnF ((o ++ [m1, m2]) ++ o) ((a ++ [m1, m2]) ++ o), h.to ≤ (o.length : Nat) := by
    have := lnF_suf (m := m1) (m2 :: o) h1 h2
    simpa only [List.append_assoc, List.cons_append, List.nil_append] using this
  have q2 : ∀ h ∈ lnF ((o ++ [m1, m2]) ++ o) ((o ++ [m1, m2]) ++ b), ((o.length + 2 : Nat) : Int) ≤ h.fr := by
    have := lnF_pre (o ++ [m1, m2]) o b
    simpa only [List.length_append, List.length_cons, List.length_nil] using this
  have r1 := lnF_right ((o ++ [m1, m2]) ++ o) ((a ++ [m1, m2]) ++ o)
  have r2 := lnF_right ((o ++ [m1, m2]) ++ o) ((o ++ [m1, m2]) ++ b)
  have a1 := lnF_app ((o ++ [m1, m2]) ++ o) ((a ++ [m1, m2]) ++ o)
  have a2 := lnF_app ((o ++ [m1, m2]) ++ o) ((o ++ [m1, m2]) ++ b)
  generalize lnF ((o ++ [m1, m2]) ++ o) ((a ++ [m1, m2]) ++ o) = l at *
  generalize lnF ((o ++ [m1, m2]) ++ o) ((o ++ [m1, m2]) ++ b) = r at *
  obtain ⟨e1, e2⟩ := mgL_eq (o := (o ++ [m1, m2]) ++ o) r1 r2
  have e3 : mrg l r = some (l ++ r) := mrgF_apart _ l r (by omega) fun x hx y hy => by have := q1 x hx; have := q2 y hy; omega
  have hA : ((o ++ [m1, m2]) ++ o).length = o.length + 2 + o.length := by simp only [List.length_append, List.length_cons, List.length_nil]
  have r3 : RQ ((o ++ [m1, m2]) ++ o).length (-1) (l ++ r) := RQ_app r2 r1 (fun g hg => by have := q2 g hg; omega) fun x hx y hy => by have := q1 x hx; have := q2 y hy; omega
  have k0 : rightF (l ++ r) (((o ++ [m1, m2]) ++ o).length : Nat) = 0 := (rightF_iff (by omega)).2 r3
  rw [e1, e2, e3]
  refine ⟨k0, ?_⟩
  show applyF ((o ++ [m1, m2]) ++ o) (l ++ r) = _
  unfold applyF
  rw [k0]
  show appG ((o ++ [m1, m2]) ++ o) 0 (l ++ r) = _
  obtain ⟨u, hu⟩ := appG_split ((o ++ [m1, m2]) ++ o) (p := o.length) (by omega) l 0 (-1) r1 (Int.le_refl _) (by omega) (by omega) q1
  obtain ⟨u', hu'⟩ := appG_split ((o ++ [m1, m2]) ++ o) (p := o.length) (by omega) [] 0 (-1) (by show (-1 : Int) ≤ _; omega) (Int.le_refl _) (by omega) (by omega) (fun g hg => by cases hg)
  have hq : ∀ g ∈ r, ((o.length : Nat) : Int) ≤ g.fr := fun g hg => by have := q2 g hg; omega
  have s1 := hu [] (fun g hg => by cases hg)
  have s2 := hu' r hq
  have s3 := hu' [] (fun g hg => by cases hg)
  have d : ((o ++ [m1, m2]) ++ o).drop o.length = [m1, m2] ++ o := by rw [List.append_assoc, List.drop_left]
  rw [List.append_nil, a1, appG, d, List.append_assoc] at s1
  have hu1 : u = a := (List.append_cancel_right s1).symm
  rw [List.nil_append, appG, appG, d, List.drop_zero, List.append_assoc] at s3
  have hu2 : u' = o := (List.append_cancel_right s3).symm
  rw [List.nil_append, a2, hu2, List.append_assoc] at s2
  have s4 := List.append_cancel_left s2
  rw [hu r hq, hu1, ← s4, List.append_assoc]
theorem marked_not {a : List W} {w : W} (h : markedF a = true) (hw : (w.getD 0 0).toNat = 10) (hl : 1 ≤ w.length) : w ∉ a := fun hm => by
  unfold markedF at h
  have := List.all_eq_true.1 h w hm
  rw [Nat.ble_eq_true_of_le hl, hw] at this
  cases this

theorem one_side (o a : List W) : mgE o (lnF o a) (lnF o o) = 0 ∧ mgL o (lnF o a) (lnF o o) = a := by
  obtain ⟨e1, e2⟩ := mgL_eq (o := o) (lnF_right o a) (lnF_right o o)
  have e3 : mrg (lnF o a) (lnF o o) = some (lnF o a) := by rw [lnF_self]; exact mrgF_nil ..
  rw [e1, e2, e3]
  exact ⟨lnF_rightF o a, lnF_apply o a⟩
theorem both_sides (o a : List W) : mgE o (lnF o a) (lnF o a) = 0 ∧ mgL o (lnF o a) (lnF o a) = a := by
  obtain ⟨e1, e2⟩ := mgL_eq (o := o) (lnF_right o a) (lnF_right o a)
  have e3 : mrg (lnF o a) (lnF o a) = some (lnF o a) := mrgF_self _ _ _ (lnF_right o a) (by omega)
  rw [e1, e2, e3]
  exact ⟨lnF_rightF o a, lnF_apply o a⟩
theorem any_first (o a b : List W) : mgE o (lnF o a) (lnF o b) = mgE o (lnF o b) (lnF o a) ∧ mgL o (lnF o a) (lnF o b) = mgL o (lnF o b) (lnF o a) := by
  obtain ⟨e1, e2⟩ := mgL_eq (o := o) (lnF_right o a) (lnF_right o b)
  obtain ⟨f1, f2⟩ := mgL_eq (o := o) (lnF_right o b) (lnF_right o a)
  rw [e1, e2, f1, f2, mrg_symm (lnF_right o a) (lnF_right o b)]
  exact ⟨rfl, rfl⟩

def mm1 : W := [10, 49]
def mm2 : W := [10, 50]
theorem run_DiffMerging (o a b : List W) : Runs (cfg [k_alive, k_fewA, k_Merge, k_stext, k_marked]) (.enter 7 [.lf (.lst 9 (eSs o)), .lf (.lst 9 (eSs a)), .lf (.lst 9 (eSs b))] []) [.bool true] := by
  refine Runs.by (lMerging_e · _ _ _) ?_
  have hm : ([[L.str (mk [10, 49])], [L.str (mk [10, 50])]] : List (List L)) = eSs [mm1, mm2] := rfl
  simp only [hm, List.nil_append, eSs_app, isSs_e, dSs_e, eSs_len, Bool.true_and, cond_true]
  cases ho : fewF o
  · exact .ret
  cases ha : fewF a
  · exact .ret
  cases hb : fewF b
  · exact .ret
  have ho := (few_of ho).1
  have ha := (few_of ha).1
  have hb := (few_of hb).1
  simp only [Bool.not_true, cond_false]
  refine RunsF.cond (fun _ => .ret) fun c1 => ?_
  refine RunsF.cond (fun _ => .ret) fun c2 => ?_
  refine RunsF.cond (fun _ => .ret) fun c3 => ?_
  have c1 := ltI_f c1
  have c2 := ltI_f c2
  have c3 := ltI_f c3
  obtain ⟨p1, p2⟩ := one_side o a
  obtain ⟨p3, p4⟩ := both_sides o a
  obtain ⟨p5, p6⟩ := any_first o a b
  have p7 : (mgL o (lnF o b) (lnF o a)).length ≤ 1000000 := mgL_len (by omega) (by omega) (by omega)
  have l1 : (o ++ [mm1, mm2] ++ o).length ≤ 400 := by simp only [List.length_append, List.length_cons, List.length_nil]; omega
  have l2 : (a ++ [mm1, mm2] ++ o).length ≤ 400 := by simp only [List.length_append, List.length_cons, List.length_nil]; omega
  have l3 : (o ++ [mm1, mm2] ++ b).length ≤ 400 := by simp only [List.length_append, List.length_cons, List.length_nil]; omega
  have l4 : (a ++ [mm1, mm2] ++ b).length ≤ 1000000 := by simp only [List.length_append, List.length_cons, List.length_nil]; omega
  have rm : ∀ n, n ≤ 1000 → roomN n 16 = true := fun n hn => roomN_t (by omega) (by omega)
  have m2l : ([mm1, mm2] : List W).length = 2 := rfl
  simp only [p1, p2, p3, p4, p5, p6, gMg_t (o := o) (a := a) (b := o) (by omega) (by omega) (by omega), gMg_t (o := o) (a := a) (b := a) (by omega) (by omega) (by omega), gMg_t (o := o) (a := a) (b := b) (by omega) (by omega) (by omega), gMg_t (o := o) (a := b) (b := a) (by omega) (by omega) (by omega),
    gLL_t (a := a) (b := a) (by omega) (by omega), gLL_t p7 p7, bne_self_eq_false, cond_false, cond_true, decide_true, Bool.not_true,
    sm_t (n := o.length) (by omega), sm_t (n := a.length) (by omega), sm_t (n := b.length) (by omega), List.length_append, m2l, rm (0 + o.length) (by omega), rm (o.length + 2) (by omega), rm (o.length + 2 + o.length) (by omega),
    rm (0 + a.length) (by omega), rm (a.length + 2) (by omega), rm (a.length + 2 + o.length) (by omega), rm (o.length + 2 + b.length) (by omega), rm (a.length + 2 + b.length) (by omega)]
  cases mo : markedF o
  · exact .ret
  cases ma : markedF a
  · exact .ret
  cases mb : markedF b
  · exact .ret
  obtain ⟨f1, f2⟩ := merge_far (m1 := mm1) (m2 := mm2) (o := o) (a := a) (b := b) (marked_not mo rfl (by decide)) (marked_not ma rfl (by decide))
  simp only [Bool.not_true, cond_false, gMg_t l1 l2 l3, f1, f2, gLL_t l4 l4, cond_true, decide_true, beq_self_eq_true]
  exact .ret
end Go.Ab
namespace Go.Ab
open Go.Proofs

/-! ### numbers -/
theorem dg_nat (k : Nat) : (UInt8.ofNat (48 + k % 10)).toNat = 48 + k % 10 := by
  rw [UInt8.toNat_ofNat']
  exact Nat.mod_eq_of_lt (by omega)
theorem digF_facts : ∀ (f n : Nat), n < 10 ^ f → 0 < f → (digF f n).all isDg = true ∧ numV (digF f n) = n ∧ 1 ≤ (digF f n).length ∧ (n < 10 → (digF f n).length = 1) ∧ (n ≠ 0 → ((digF f n).getD 0 0).toNat ≠ 48)
  | 0, n, h, h0 => absurd h0 (Nat.lt_irrefl _)
  | f + 1, n, h, _ => by
    have hd := dg_nat n
    have hdg : isDg (UInt8.ofNat (48 + n % 10)) = true := isDg_t (by omega) (by omega)
    rw [digF]
    by_cases hn : n < 10
    · rw [if_pos hn, List.nil_append]
      refine ⟨by rw [List.all_cons, hdg]; rfl, ?_, by simp, fun _ => by simp, fun h0 => ?_⟩
      · rw [numV_eq]
        show stepN 0 _ = n
        unfold stepN
        rw [hd]; omega
      · show (UInt8.ofNat (48 + n % 10)).toNat ≠ 48
        rw [hd]; omega
    · rw [if_neg hn]
      have hf : 0 < f := by
        cases f with
        | zero => simp at h; omega
        | succ f => exact Nat.succ_pos _
      have hp : n / 10 < 10 ^ f := by
        rw [Nat.pow_succ] at h
        omega
      obtain ⟨i1, i2, i3, i4, i5⟩ := digF_facts f (n / 10) hp hf
      refine ⟨by rw [List.all_append, i1, List.all_cons, hdg]; rfl, ?_, by rw [List.length_append]; omega, fun h => absurd h hn, fun _ => ?_⟩
      · rw [numV_eq] at i2 ⊢
        rw [List.foldl_append, i2]
        show stepN (n / 10) _ = n
        unfold stepN
        rw [hd]; omega
      · have : ((digF f (n / 10)) ++ [UInt8.ofNat (48 + n % 10)]).getD 0 0 = (digF f (n / 10)).getD 0 0 := by
          simp only [List.getD_eq_getElem?_getD]
          rw [List.getElem?_append_left (by omega)]
        rw [this]
        exact i5 (by omega)
theorem digF_max : ∀ (f n k : Nat), n < 10 ^ k → 0 < k → (digF f n).length ≤ k
  | 0, n, k, h, h0 => Nat.zero_le _
  | f + 1, n, k, h, h0 => by
    rw [digF]
    by_cases hn : n < 10
    · rw [if_pos hn]; simp; omega
    · rw [if_neg hn, List.length_append]
      obtain ⟨j, rfl⟩ : ∃ j, k = j + 1 := ⟨k - 1, by omega⟩
      have hj : 0 < j := by
        cases j with
        | zero => simp at h; omega
        | succ j => exact Nat.succ_pos _
      have := digF_max f (n / 10) j (by rw [Nat.pow_succ] at h; omega) hj
      simp; omega
theorem dig_facts {n : Nat} (h : n < 1000000000) : (dig n).all isDg = true ∧ numV (dig n) = n ∧ 1 ≤ (dig n).length ∧ (dig n).length ≤ 9 ∧ numOk (dig n) = true := by
  obtain ⟨h1, h2, h3, h4, h5⟩ := digF_facts 20 n (Nat.lt_of_lt_of_le h (by decide)) (by decide)
  have h6 := digF_max 20 n 9 (Nat.lt_of_lt_of_le h (by decide)) (by decide)
  refine ⟨h1, h2, h3, h6, ?_⟩
  unfold numOk
  show (Nat.ble 1 (digF 20 n).length && (Nat.ble (digF 20 n).length 9 && (!(Nat.ble 2 (digF 20 n).length && (((digF 20 n).getD 0 0).toNat == 48)) && (digF 20 n).all isDg))) = true
  rw [Nat.ble_eq_true_of_le h3, Nat.ble_eq_true_of_le h6, h1, Bool.true_and, Bool.true_and, Bool.and_true, Bool.not_eq_true', Bool.and_eq_false_iff]
  by_cases hn : n < 10
  · left
    rw [← Bool.not_eq_true, Nat.ble_eq, h4 hn]; omega
  · right
    simpa using h5 (by omega)
theorem dig_no {n : Nat} (h : n < 1000000000) {c : UInt8} (hc : isDg c = false) : c ∉ dig n := fun hm => by
  have := List.all_eq_true.1 (dig_facts h).1 c hm
  rw [hc] at this; cases this
theorem fold_ge : ∀ (l : W) (m : Nat), m ≤ l.foldl stepN m
  | [], m => Nat.le_refl _
  | c :: l, m => by
    refine Nat.le_trans ?_ (fold_ge l (stepN m c))
    unfold stepN; omega
theorem digF_num : ∀ (f : Nat) (w : W), w.length ≤ f → 1 ≤ w.length → w.all isDg = true → (2 ≤ w.length → (w.getD 0 0).toNat ≠ 48) → digF f (numV w) = w
  | 0, w, hf, h1, hd, h0 => by omega
  | f + 1, w, hf, h1, hd, h0 => by
    rcases List.eq_nil_or_concat w with rfl | ⟨v, c, rfl⟩
    · simp at h1
    rw [List.concat_eq_append] at *
    rw [List.length_append] at hf h1 h0
    simp only [List.length_cons, List.length_nil] at hf h1 h0
    rw [List.all_append, Bool.and_eq_true] at hd
    have hc : 48 ≤ c.toNat ∧ c.toNat ≤ 57 := by
      have := hd.2
      simp only [List.all_cons, List.all_nil, Bool.and_true, isDg_eq, decide_eq_true_eq] at this
      exact this
    have hN : numV (v ++ [c]) = 10 * numV v + (c.toNat - 48) := by
      rw [numV_eq, numV_eq, List.foldl_append]
      show stepN _ c = _
      rfl
    have hmod : numV (v ++ [c]) % 10 = c.toNat - 48 := by omega
    have hdiv : numV (v ++ [c]) / 10 = numV v := by omega
    rw [digF, hmod, hdiv]
    have hlast : UInt8.ofNat (48 + (c.toNat - 48)) = c := by
      rw [show 48 + (c.toNat - 48) = c.toNat by omega, UInt8.ofNat_toNat]
    rw [hlast]
    cases v with
    | nil =>
      have : numV ([] ++ [c]) < 10 := by rw [hN]; show 10 * 0 + _ < 10; omega
      rw [if_pos this]
    | cons d v =>
      have hh : d.toNat ≠ 48 := h0 (by simp)
      have hd0 : 48 ≤ d.toNat := by
        have := List.all_eq_true.1 hd.1 d List.mem_cons_self
        rw [isDg_eq, decide_eq_true_eq] at this
        exact this.1
      have hp : 1 ≤ numV (d :: v) := by
        rw [numV_eq]
        refine Nat.le_trans ?_ (fold_ge v (stepN 0 d))
        unfold stepN; omega
      rw [if_neg (by omega), digF_num f (d :: v) (by omega) (by simp) hd.1 fun _ => hh]
theorem numOk_of {w : W} (h : numOk w = true) : 1 ≤ w.length ∧ w.length ≤ 9 ∧ w.all isDg = true ∧ (2 ≤ w.length → (w.getD 0 0).toNat ≠ 48) := by
  unfold numOk at h
  rw [Bool.and_eq_true, Bool.and_eq_true, Bool.and_eq_true, Nat.ble_eq, Nat.ble_eq] at h
  obtain ⟨h1, h2, h3, h4⟩ := h
  refine ⟨h1, h2, h4, fun hl e => ?_⟩
  rw [Nat.ble_eq_true_of_le hl, e] at h3
  cases h3
theorem dig_num {w : W} (h : numOk w = true) : dig (numV w) = w := by
  obtain ⟨h1, h2, h3, h4⟩ := numOk_of h
  exact digF_num 20 w (by omega) h1 h3 h4

/-! ### pieces -/
def tm (c : UInt8) (rows : List W) : W := rows.flatMap (· ++ [c])
theorem tm_cons (c : UInt8) (w : W) (rows : List W) : tm c (w :: rows) = w ++ c :: tm c rows := by simp [tm]
theorem tm_app (c : UInt8) (a b : List W) : tm c (a ++ b) = tm c a ++ tm c b := by simp [tm]
theorem spl_none (c : UInt8) : ∀ w : W, c ∉ w → spl c w = [w]
  | [], _ => rfl
  | x :: w, h => by
    rw [spl, if_neg (fun e => h (by rw [e]; exact List.mem_cons_self)), spl_none c w (fun e => h (List.mem_cons_of_mem _ e))]
theorem spl_app (c : UInt8) (t : W) : ∀ w : W, c ∉ w → spl c (w ++ c :: t) = w :: spl c t
  | [], _ => by rw [List.nil_append, spl, if_pos rfl]
  | x :: w, h => by
    rw [List.cons_append, spl, if_neg (fun e => h (by rw [e]; exact List.mem_cons_self)), spl_app c t w (fun e => h (List.mem_cons_of_mem _ e))]
theorem spl_tm (c : UInt8) : ∀ l : W, tm c (spl c l) = l ++ [c] ∧ ∀ w ∈ spl c l, c ∉ w
  | [] => ⟨rfl, fun w h => by rw [List.mem_singleton.1 h]; exact List.not_mem_nil⟩
  | x :: l => by
    obtain ⟨i1, i2⟩ := spl_tm c l
    rw [spl]
    by_cases e : x = c
    · rw [if_pos e]
      refine ⟨by rw [tm_cons, i1, e]; rfl, fun w h => ?_⟩
      rcases List.mem_cons.1 h with rfl | h
      · exact List.not_mem_nil
      · exact i2 w h
    · rw [if_neg e]
      cases hs : spl c l with
      | nil => exact absurd hs (spl_ne c l)
      | cons h t =>
        rw [hs] at i1 i2
        rw [tm_cons] at i1
        simp only
        refine ⟨by rw [tm_cons, List.cons_append, i1]; rfl, fun w hw => ?_⟩
        rcases List.mem_cons.1 hw with rfl | hw
        · intro hm
          rcases List.mem_cons.1 hm with hm | hm
          · exact e hm.symm
          · exact i2 h List.mem_cons_self hm
        · exact i2 w (List.mem_cons_of_mem _ hw)
theorem spl_uniq (c : UInt8) : ∀ (rows : List W) (l : W), rows ≠ [] → (∀ w ∈ rows, c ∉ w) → tm c rows = l ++ [c] → spl c l = rows
  | [], l, h, _, _ => absurd rfl h
  | [w], l, _, hw, e => by
    rw [tm_cons] at e
    have e : w ++ [c] = l ++ [c] := e
    rw [← List.append_cancel_right e]
    exact spl_none c w (hw w List.mem_cons_self)
  | w :: w2 :: rows, l, _, hw, e => by
    obtain ⟨l', h'⟩ : ∃ l', tm c (w2 :: rows) = l' ++ [c] := by
      have hne : tm c (w2 :: rows) ≠ [] := by rw [tm_cons]; simp
      have hl : (tm c (w2 :: rows)).getLast? = some c := by
        clear e hne hw
        rename_i hx
        clear hx
        induction rows generalizing w2 with
        | nil => rw [tm_cons]; simp [tm]
        | cons w3 rows ih =>
          rw [tm_cons, List.getLast?_append, List.getLast?_cons, ih w3]
          rfl
      rcases List.eq_nil_or_concat (tm c (w2 :: rows)) with h | ⟨v, d, h⟩
      · exact absurd h hne
      · rw [List.concat_eq_append] at h
        rw [h] at hl
        simp at hl
        exact ⟨v, by rw [h, hl]⟩
    rw [tm_cons, h'] at e
    have e : (w ++ c :: l') ++ [c] = l ++ [c] := by rw [← e]; simp
    rw [← List.append_cancel_right e, spl_app c l' w (hw w List.mem_cons_self), spl_uniq c (w2 :: rows) l' (by simp) (fun w hw' => hw w (List.mem_cons_of_mem _ hw')) h']

/-! ### the first row of a hunk -/
def hrow (a b c : Nat) : W := 64 :: (dig a ++ 32 :: (dig b ++ 32 :: dig c))
theorem sp_no {n : Nat} (h : n < 1000000000) : (32 : UInt8) ∉ dig n := dig_no h (by decide)
theorem spl3 {a b c : Nat} (ha : a < 1000000000) (hb : b < 1000000000) (hc : c < 1000000000) : spl 32 (dig a ++ 32 :: (dig b ++ 32 :: dig c)) = [dig a, dig b, dig c] := by
  rw [spl_app 32 _ _ (sp_no ha), spl_app 32 _ _ (sp_no hb), spl_none 32 _ (sp_no hc)]
theorem numR_of {w : W} (h : numOk w = true) : numR w = (numV w : Nat) := by unfold numR; rw [h]; rfl
theorem hd_row {a b c : Nat} (ha : a < 1000000000) (hb : b < 1000000000) (hc : c < 1000000000) : hdOk (hrow a b c) 3 = true ∧ hdV (hrow a b c) 0 = a ∧ hdV (hrow a b c) 1 = b ∧ hdV (hrow a b c) 2 = c := by
  have e : spl 32 ((hrow a b c).drop 1) = [dig a, dig b, dig c] := spl3 ha hb hc
  have e0 : hdA (hrow a b c) 0 = dig a := by unfold hdA; rw [e]; rfl
  have e1 : hdA (hrow a b c) 1 = dig b := by unfold hdA; rw [e]; rfl
  have e2 : hdA (hrow a b c) 2 = dig c := by unfold hdA; rw [e]; rfl
  obtain ⟨_, a2, _, _, a5⟩ := dig_facts ha
  obtain ⟨_, b2, _, _, b5⟩ := dig_facts hb
  obtain ⟨_, c2, _, _, c5⟩ := dig_facts hc
  have k0 : hdOk (hrow a b c) 0 = true := by
    show hdG (hrow a b c) = true
    unfold hdG
    rw [e]; rfl
  have k1 : hdOk (hrow a b c) 1 = true := by rw [hdOk, k0, e0, a5]; rfl
  have k2 : hdOk (hrow a b c) 2 = true := by rw [hdOk, k1, e1, b5]; rfl
  have k3 : hdOk (hrow a b c) 3 = true := by rw [hdOk, k2, e2, c5]; rfl
  refine ⟨k3, ?_, ?_, ?_⟩
  · rw [hdV_t k1, e0, numR_of a5, a2]
  · rw [hdV_t k2, e1, numR_of b5, b2]
  · rw [hdV_t k3, e2, numR_of c5, c2]
theorem hd_of {r : W} (h : hdOk r 3 = true) : ∃ a b c : Nat, r = hrow a b c ∧ hdV r 0 = a ∧ hdV r 1 = b ∧ hdV r 2 = c := by
  have h3 := h
  rw [hdOk, Bool.and_eq_true] at h
  obtain ⟨h2, n2⟩ := h
  have k2 := h2
  rw [hdOk, Bool.and_eq_true] at h2
  obtain ⟨h1, n1⟩ := h2
  have k1 := h1
  rw [hdOk, Bool.and_eq_true] at h1
  obtain ⟨h0, n0⟩ := h1
  have h0 : hdG r = true := h0
  unfold hdG at h0
  rw [Bool.and_eq_true, Nat.beq_eq] at h0
  obtain ⟨p, q⟩ := h0
  refine ⟨numV (hdA r 0), numV (hdA r 1), numV (hdA r 2), ?_, by rw [hdV_t k1, numR_of n0], by rw [hdV_t k2, numR_of n1], by rw [hdV_t h3, numR_of n2]⟩
  unfold hrow
  rw [dig_num n0, dig_num n1, dig_num n2]
  cases r with
  | nil => cases p
  | cons x t =>
    have hx : x = 64 := by
      simp [List.isPrefixOf] at p
      exact p.symm
    have ht := (spl_tm 32 t).1
    unfold hdA
    rw [List.drop_succ_cons, List.drop_zero] at q ⊢
    match hs : spl 32 t, q with
    | [u, v, w], _ =>
      rw [hs] at ht
      have : (u ++ 32 :: (v ++ 32 :: w)) ++ [32] = t ++ [32] := by rw [← ht]; simp [tm]
      rw [hx, ← List.append_cancel_right this]; rfl
end Go.Ab
