/- Parse of Print, Print of Parse, on both sides. -/
import Derived.Test.YteceaodahndphaaDoorPartDf3
namespace Go.Ab
open Go.Proofs

/-! ### rows of hunks -/
def hkR (h : Hk) : W := hrow h.fr.toNat (h.to - h.fr).toNat h.ls.length
def rowsF (l : List Hk) : List W := l.flatMap fun h => hkR h :: h.ls.map (43 :: ·)
theorem rowsF_cons (h : Hk) (l : List Hk) : rowsF (h :: l) = hkR h :: (h.ls.map (43 :: ·) ++ rowsF l) := by simp [rowsF]
theorem hkT_eq (h : Hk) : hkT h = hkR h ++ [10] := by
  unfold hkT hkR hrow
  simp
theorem tm_lines (ls : List W) : tm 10 (ls.map (43 :: ·)) = ls.flatMap lnT := by
  induction ls with
  | nil => rfl
  | cons w ls ih =>
    rw [List.map_cons, tm_cons, ih, List.flatMap_cons]
    unfold lnT
    simp
theorem prF_cons (h : Hk) (l : List Hk) : prF (h :: l) = hkT h ++ (h.ls.flatMap lnT ++ prF l) := by simp [prF]
theorem prF_rows : ∀ l : List Hk, prF l = tm 10 (rowsF l)
  | [] => rfl
  | h :: l => by
    rw [rowsF_cons, tm_cons, tm_app, tm_lines, ← prF_rows l, prF_cons, hkT_eq]
    simp
theorem plain_iff {l : List Hk} : plainF l = true ↔ ∀ h ∈ l, ∀ s ∈ h.ls, (10 : UInt8) ∉ s := by
  unfold plainF
  simp only [List.all_eq_true]
  constructor
  · intro k h hh s hs hm
    have := k h hh s hs 10 hm
    cases this
  · intro k h hh s hs c hc
    rw [Bool.not_eq_true', beq_eq_false_iff_ne]
    intro e
    have : c = 10 := UInt8.toNat_inj.1 e
    exact k h hh s hs (this ▸ hc)
/-- Numbers of hunks that are read back. -/
def smH (h : Hk) : Prop := 0 ≤ h.fr ∧ h.fr ≤ h.to ∧ h.to < 1000000000 ∧ h.ls.length < 1000000000
theorem parL_sound : ∀ (f : Nat) (rows : List W) (l : List Hk), parL f rows = some l → rowsF l = rows
  | f, [], l, h => by
    have : l = [] := by cases f <;> exact (Option.some.inj h).symm
    rw [this]; rfl
  | 0, r :: rows, l, h => by cases h
  | f + 1, r :: rows, l, h => by
    rw [parL] at h
    split at h
    case isFalse => cases h
    rename_i c
    obtain ⟨c1, c2, c3⟩ := c
    split at h
    case h_2 => cases h
    rename_i l' e
    cases h
    obtain ⟨a, b, n, h1, h2, h3, h4⟩ := hd_of c1
    rw [h4] at c2 c3 e ⊢
    rw [h2, h3]
    simp only [Int.toNat_natCast] at c3 e ⊢
    have ih := parL_sound f _ l' e
    rw [rowsF_cons, ih]
    have hl : (rows.take n).length = n := by rw [List.length_take]; omega
    have hp : ((rows.take n).map (·.drop 1)).map (43 :: ·) = rows.take n := by
      rw [List.map_map]
      have : ∀ w ∈ rows.take n, (((fun x => 43 :: x) ∘ fun x : W => x.drop 1) w) = w := fun w hw => by
        unfold plusAll at c3
        have := List.all_eq_true.1 c3 w hw
        cases w with
        | nil => cases this
        | cons x w =>
          simp [List.isPrefixOf] at this
          rw [← this]; rfl
      rw [List.map_congr_left this, List.map_id']
    show hkR ⟨a, (a : Int) + b, (rows.take n).map (·.drop 1)⟩ :: (((rows.take n).map (·.drop 1)).map (43 :: ·) ++ rows.drop n) = r :: rows
    rw [hp, List.take_append_drop, h1]
    unfold hkR
    simp only [Int.toNat_natCast, List.length_map, hl]
    rw [show ((a : Int) + b - a).toNat = b by omega]
theorem parL_full : ∀ (l : List Hk) (f : Nat), (∀ h ∈ l, smH h) → l.length ≤ f → parL f (rowsF l) = some l
  | [], f, _, _ => by cases f <;> rfl
  | h :: l, 0, _, hf => by simp at hf
  | h :: l, f + 1, hs, hf => by
    obtain ⟨s1, s2, s3, s4⟩ := hs h List.mem_cons_self
    have ih := parL_full l f (fun g hg => hs g (List.mem_cons_of_mem _ hg)) (by simpa using hf)
    obtain ⟨h1, h2, h3, h4⟩ := hd_row (a := h.fr.toNat) (b := (h.to - h.fr).toNat) (c := h.ls.length) (by omega) (by omega) s4
    have hh : hkR h = hrow h.fr.toNat (h.to - h.fr).toNat h.ls.length := rfl
    rw [← hh] at h1 h2 h3 h4
    have t1 : (h.ls.map (43 :: ·) ++ rowsF l).take h.ls.length = h.ls.map (43 :: ·) := by
      rw [List.take_append_of_le_length (by simp), List.take_of_length_le (by simp)]
    have t2 : (h.ls.map (43 :: ·) ++ rowsF l).drop h.ls.length = rowsF l := by
      rw [List.drop_append]; simp
    rw [rowsF_cons, parL, h2, h3, h4]
    simp only [Int.toNat_natCast]
    rw [t1, t2, ih, if_pos]
    · simp only
      have e1 : (h.fr.toNat : Int) = h.fr := by omega
      have e2 : h.fr + ((h.to - h.fr).toNat : Int) = h.to := by omega
      have e3 : ((h.ls.map (43 :: ·)).map (·.drop 1)) = h.ls := by
        rw [List.map_map]
        exact (List.map_congr_left (fun w _ => rfl)).trans (List.map_id' _)
      rw [e1, e2, e3]
    · refine ⟨h1, by simp; omega, ?_⟩
      unfold plusAll
      rw [List.all_map, List.all_eq_true]
      exact fun w _ => by simp [List.isPrefixOf]
theorem right_sm {l : List Hk} (h : rightF l 2000 = 0) (hs : ∀ g ∈ l, g.ls.length < 1000000000) : ∀ g ∈ l, smH g := fun g hg => by
  have := RQ_all (Int.le_refl _) ((rightF_iff (by omega)).1 h) g hg
  exact ⟨this.1, this.2.1, by omega, hs g hg⟩
theorem last_app (t : W) (c : UInt8) : (t ++ [c]).getD ((t ++ [c]).length - 1) 0 = c ∧ (t ++ [c]).take ((t ++ [c]).length - 1) = t := by
  have : (t ++ [c]).length - 1 = t.length := by simp
  rw [this]
  simp [List.getD]
theorem parR_sound {s : W} {l : List Hk} (h : parR s = some l) : rightF l 2000 = 0 ∧ prF l = s ∧ plainF l = true := by
  unfold parR at h
  split at h
  · rename_i e
    cases h
    exact ⟨rfl, by rw [e]; rfl, rfl⟩
  · rename_i hne
    split at h
    case isFalse => cases h
    rename_i hl
    split at h
    case h_2 => cases h
    rename_i l' e
    split at h
    case isFalse => cases h
    rename_i hr
    cases h
    rcases List.eq_nil_or_concat s with h0 | ⟨t, c, h0⟩
    · exact absurd h0 hne
    rw [List.concat_eq_append] at h0
    subst h0
    obtain ⟨k1, k2⟩ := last_app t c
    rw [k1] at hl
    rw [k2] at e
    have hc : c = 10 := UInt8.toNat_inj.1 hl
    subst hc
    have hr2 := parL_sound _ _ _ e
    obtain ⟨q1, q2⟩ := spl_tm 10 t
    refine ⟨hr, by rw [prF_rows, hr2, q1], plain_iff.2 fun h hh w hw hm => ?_⟩
    rw [← hr2] at q2
    refine q2 (43 :: w) ?_ (List.mem_cons_of_mem _ hm)
    unfold rowsF
    exact List.mem_flatMap.2 ⟨h, hh, List.mem_cons_of_mem _ (List.mem_map.2 ⟨w, hw, rfl⟩)⟩
theorem nl_no {n : Nat} (h : n < 1000000000) : (10 : UInt8) ∉ dig n := dig_no h (by decide)
theorem hkR_no {h : Hk} (hs : smH h) : (10 : UInt8) ∉ hkR h := fun hm => by
  obtain ⟨s1, s2, s3, s4⟩ := hs
  unfold hkR hrow at hm
  rcases List.mem_cons.1 hm with hm | hm
  · cases hm
  rcases List.mem_append.1 hm with hm | hm
  · exact nl_no (by omega) hm
  rcases List.mem_cons.1 hm with hm | hm
  · cases hm
  rcases List.mem_append.1 hm with hm | hm
  · exact nl_no (by omega) hm
  rcases List.mem_cons.1 hm with hm | hm
  · cases hm
  · exact nl_no (by omega) hm
theorem rows_len : ∀ l : List Hk, l.length ≤ (rowsF l).length
  | [] => Nat.le_refl _
  | h :: l => by
    have := rows_len l
    rw [rowsF_cons, List.length_cons, List.length_cons, List.length_append]; omega
theorem parR_full {l : List Hk} (hr : rightF l 2000 = 0) (hp : plainF l = true) (hs : ∀ g ∈ l, g.ls.length < 1000000000) : parR (prF l) = some l := by
  have hsm := right_sm hr hs
  have hp := plain_iff.1 hp
  unfold parR
  cases l with
  | nil => rfl
  | cons g l =>
    have hne : rowsF (g :: l) ≠ [] := by rw [rowsF_cons]; simp
    have hno : ∀ w ∈ rowsF (g :: l), (10 : UInt8) ∉ w := fun w hw => by
      unfold rowsF at hw
      obtain ⟨h, hh, hw⟩ := List.mem_flatMap.1 hw
      rcases List.mem_cons.1 hw with rfl | hw
      · exact hkR_no (hsm h hh)
      · obtain ⟨v, hv, rfl⟩ := List.mem_map.1 hw
        intro hm
        rcases List.mem_cons.1 hm with hm | hm
        · cases hm
        · exact hp h hh v hv hm
    obtain ⟨t, ht⟩ : ∃ t, prF (g :: l) = t ++ [10] := by
      rw [prF_rows]
      rcases List.eq_nil_or_concat (rowsF (g :: l)) with h | ⟨v, d, h⟩
      · exact absurd h hne
      · rw [List.concat_eq_append] at h
        exact ⟨tm 10 v ++ d, by rw [h, tm_app, tm_cons]; simp [tm]⟩
    have hspl := spl_uniq 10 (rowsF (g :: l)) t hne hno (by rw [← prF_rows, ht])
    obtain ⟨k1, k2⟩ := last_app t 10
    rw [ht, if_neg (by simp), k1, k2, hspl, if_pos (by rfl), parL_full (g :: l) _ hsm (rows_len _)]
    simp only
    rw [if_pos hr]

/-! ### the reference -/
theorem dgs_dig {n : Nat} (h : n < 1000000000) {e : UInt8} (he : isDg e = false) (t : W) : dgs (dig n ++ e :: t) = dig n := by
  obtain ⟨h1, _, _, h4, _⟩ := dig_facts h
  unfold dgs
  rw [List.take_append, List.take_of_length_le h4, List.takeWhile_append_of_pos (fun c hc => List.all_eq_true.1 h1 c hc)]
  have : ((e :: t).take (9 - (dig n).length)).takeWhile isDg = [] := by
    cases 9 - (dig n).length with
    | zero => rfl
    | succ k => rw [List.take_succ_cons, List.takeWhile_cons, he]; rfl
  rw [this, List.append_nil]
theorem rn_dig {n : Nat} (h : n < 1000000000) {e : UInt8} (he : isDg e = false) (t : W) {z : Int} (hz : (e.toNat : Int) = z) : rn (dig n ++ e :: t) z = some (n, t) := by
  obtain ⟨h1, h2, h3, h4, _⟩ := dig_facts h
  have hd := dgs_dig h he t
  have hok : rnumOk (dig n ++ e :: t) z = true := by
    unfold rnumOk
    rw [hd, Nat.ble_eq_true_of_le h3, Bool.true_and, Bool.and_eq_true]
    refine ⟨by rw [Nat.blt_eq]; simp, ?_⟩
    have : (dig n ++ e :: t).getD (dig n).length 0 = e := by simp [List.getD]
    rw [this, hz]; simp
  unfold rn
  rw [if_pos hok, hd, h2]
  congr 2
  rw [List.drop_append]
  simp
theorem lnW_line {w : W} (h : (10 : UInt8) ∉ w) (t : W) : lnW (43 :: (w ++ 10 :: t)) = 43 :: w := by
  unfold lnW
  rw [← List.cons_append, List.takeWhile_append_of_pos]
  · rw [List.takeWhile_cons]
    simp
  · intro c hc
    rw [Bool.not_eq_true', beq_eq_false_iff_ne]
    intro e
    have : c = 10 := UInt8.toNat_inj.1 e
    subst this
    rcases List.mem_cons.1 hc with hc | hc
    · cases hc
    · exact h hc
theorem rls_full (t : W) : ∀ ls : List W, (∀ w ∈ ls, (10 : UInt8) ∉ w) → rls ls.length (ls.flatMap lnT ++ t) = some (ls, t)
  | [], _ => rfl
  | w :: ls, h => by
    have ih := rls_full t ls fun v hv => h v (List.mem_cons_of_mem _ hv)
    have e : (w :: ls).flatMap lnT ++ t = 43 :: (w ++ 10 :: (ls.flatMap lnT ++ t)) := by
      rw [List.flatMap_cons]
      unfold lnT
      simp
    have hl := lnW_line (h w List.mem_cons_self) (ls.flatMap lnT ++ t)
    rw [e, List.length_cons, rls]
    simp only [hl]
    have hd : (43 :: (w ++ 10 :: (ls.flatMap lnT ++ t))).drop ((43 :: w).length + 1) = ls.flatMap lnT ++ t := by
      rw [List.length_cons, List.drop_succ_cons, List.drop_append]; simp
    rw [if_pos ⟨rfl, by simp⟩, hd, ih]
    rfl
theorem rhk_full {h : Hk} (hs : smH h) (hp : ∀ w ∈ h.ls, (10 : UInt8) ∉ w) (t : W) : rhk (hkT h ++ (h.ls.flatMap lnT ++ t)) = some (h, t) := by
  obtain ⟨s1, s2, s3, s4⟩ := hs
  have e : hkT h ++ (h.ls.flatMap lnT ++ t) = 64 :: (dig h.fr.toNat ++ 32 :: (dig (h.to - h.fr).toNat ++ 32 :: (dig h.ls.length ++ 10 :: (h.ls.flatMap lnT ++ t)))) := by
    unfold hkT
    simp
  rw [e, rhk, if_pos (by decide), rn_dig (e := 32) (z := 32) (by omega) (by decide) _ (by decide)]
  simp only
  rw [rn_dig (e := 32) (z := 32) (by omega) (by decide) _ (by decide)]
  simp only
  rw [rn_dig (e := 10) (z := 10) (by omega) (by decide) _ (by decide)]
  simp only
  rw [rls_full t h.ls hp]
  simp only
  have e1 : (h.fr.toNat : Int) = h.fr := by omega
  have e2 : h.fr + ((h.to - h.fr).toNat : Int) = h.to := by omega
  rw [e1, e2]
theorem rpar_full : ∀ (l : List Hk) (f : Nat), (∀ h ∈ l, smH h) → (∀ h ∈ l, ∀ s ∈ h.ls, (10 : UInt8) ∉ s) → l.length ≤ f → rpar f (prF l) = some l
  | [], f, _, _, _ => by cases f <;> rfl
  | h :: l, 0, _, _, hf => by simp at hf
  | h :: l, f + 1, hs, hp, hf => by
    have ih := rpar_full l f (fun g hg => hs g (List.mem_cons_of_mem _ hg)) (fun g hg => hp g (List.mem_cons_of_mem _ hg)) (by simpa using hf)
    have hh := rhk_full (hs h List.mem_cons_self) (hp h List.mem_cons_self) (prF l)
    have e : ∃ c v, prF (h :: l) = c :: v := by rw [prF_cons]; unfold hkT; exact ⟨_, _, rfl⟩
    rw [← prF_cons] at hh
    obtain ⟨c, v, e⟩ := e
    rw [e] at hh ⊢
    rw [rpar, hh]
    · simp only
      rw [ih]
    · intro h; cases h
theorem prF_len : ∀ l : List Hk, l.length ≤ (prF l).length ∧ ∀ h ∈ l, h.ls.length ≤ (prF l).length ∧ ∀ w ∈ h.ls, w.length ≤ (prF l).length
  | [] => ⟨Nat.le_refl _, fun h hh => by cases hh⟩
  | g :: l => by
    obtain ⟨i1, i2⟩ := prF_len l
    have hg : 1 ≤ (hkT g).length := by unfold hkT; simp
    have hf : ∀ ls : List W, ls.length ≤ (ls.flatMap lnT).length ∧ ∀ w ∈ ls, w.length ≤ (ls.flatMap lnT).length := by
      intro ls
      induction ls with
      | nil => exact ⟨Nat.le_refl _, fun w hw => by cases hw⟩
      | cons w ls ih =>
        rw [List.flatMap_cons, List.length_append, lnT_len, List.length_cons]
        refine ⟨by omega, fun v hv => ?_⟩
        rcases List.mem_cons.1 hv with rfl | hv
        · omega
        · have := ih.2 v hv; omega
    rw [prF_cons, List.length_append, List.length_append, List.length_cons]
    refine ⟨by omega, fun h hh => ?_⟩
    rcases List.mem_cons.1 hh with rfl | hh
    · exact ⟨by have := (hf h.ls).1; omega, fun w hw => by have := (hf h.ls).2 w hw; omega⟩
    · exact ⟨by have := (i2 h hh).1; omega, fun w hw => by have := (i2 h hh).2 w hw; omega⟩
theorem rparR_full {l : List Hk} (hr : rightF l 2000 = 0) (hp : plainF l = true) (hs : ∀ g ∈ l, g.ls.length < 1000000000) : rparR (prF l) = some l := by
  unfold rparR
  rw [rpar_full l _ (right_sm hr hs) (plain_iff.1 hp) (prF_len l).1]
  simp only
  rw [if_pos ⟨hr, trivial⟩]
theorem lnW_no (l : W) : (10 : UInt8) ∉ lnW l := fun hm => by
  unfold lnW at hm
  have := List.all_takeWhile (p := fun c : UInt8 => !(c.toNat == 10)) (l := l)
  have := List.all_eq_true.1 this 10 hm
  cases this
theorem rls_no : ∀ (n : Nat) (l : W) {ls : List W} {r : W}, rls n l = some (ls, r) → ∀ w ∈ ls, (10 : UInt8) ∉ w
  | 0, l, ls, r, h => by
    cases h
    exact fun w hw => by cases hw
  | n + 1, [], ls, r, h => by cases h
  | n + 1, c :: t, ls, r, h => by
    rw [rls] at h
    split at h
    case isFalse => cases h
    split at h
    case h_2 => cases h
    rename_i ls' r' e
    cases h
    intro w hw
    rcases List.mem_cons.1 hw with rfl | hw
    · exact fun hm => lnW_no _ (List.mem_of_mem_drop hm)
    · exact rls_no n _ e w hw
theorem rhk_no {l : W} {h : Hk} {r : W} (hq : rhk l = some (h, r)) : ∀ w ∈ h.ls, (10 : UInt8) ∉ w := by
  cases l with
  | nil => cases hq
  | cons c t =>
    rw [rhk] at hq
    split at hq
    case isFalse => cases hq
    split at hq
    · cases hq
    split at hq
    · cases hq
    split at hq
    · cases hq
    split at hq
    · cases hq
    rename_i e
    cases hq
    exact rls_no _ _ e
theorem rpar_no : ∀ (f : Nat) (s : W) (l : List Hk), rpar f s = some l → ∀ h ∈ l, ∀ w ∈ h.ls, (10 : UInt8) ∉ w
  | f, [], l, h => by
    have : l = [] := by cases f <;> exact (Option.some.inj h).symm
    rw [this]
    exact fun h hh => by cases hh
  | 0, c :: s, l, h => by cases h
  | f + 1, c :: s, l, h => by
    have h : (match rhk (c :: s) with
      | none => none
      | some (h, r) => match rpar f r with
        | none => none
        | some l => some (h :: l)) = some l := h
    split at h
    · cases h
    rename_i g r e
    split at h
    · cases h
    rename_i l' e'
    cases h
    intro h hh
    rcases List.mem_cons.1 hh with rfl | hh
    · exact rhk_no e
    · exact rpar_no f r l' e' h hh
theorem rparR_sound {s : W} {l : List Hk} (h : rparR s = some l) : rightF l 2000 = 0 ∧ prF l = s ∧ plainF l = true := by
  unfold rparR at h
  split at h
  case h_2 => cases h
  rename_i l' e
  split at h
  case isFalse => cases h
  rename_i c
  cases h
  exact ⟨c.1, c.2, plain_iff.2 (rpar_no _ _ _ e)⟩
theorem par_eq {s : W} (hs : s.length < 1000000000) : parR s = rparR s := by
  cases h : parR s with
  | some l =>
    obtain ⟨h1, h2, h3⟩ := parR_sound h
    have := rparR_full h1 h3 fun g hg => by
      have := ((prF_len l).2 g hg).1
      rw [h2] at this; omega
    rw [h2] at this
    exact this.symm
  | none =>
    cases h' : rparR s with
    | none => rfl
    | some l =>
      obtain ⟨h1, h2, h3⟩ := rparR_sound h'
      have := parR_full h1 h3 fun g hg => by
        have := ((prF_len l).2 g hg).1
        rw [h2] at this; omega
      rw [h2, h] at this
      cases this

/-! ### the laws -/
theorem prF_bound : ∀ (l : List Hk), (∀ h ∈ l, h.ls.length ≤ 40 ∧ ∀ s ∈ h.ls, s.length ≤ 200) → (prF l).length ≤ l.length * 9000
  | [], _ => Nat.le_refl _
  | h :: l, hh => by
    have ih := prF_bound l fun g hg => hh g (List.mem_cons_of_mem _ hg)
    obtain ⟨h1, h2⟩ := hh h List.mem_cons_self
    have hb : ∀ ls : List W, (∀ s ∈ ls, s.length ≤ 200) → (ls.flatMap lnT).length ≤ ls.length * 202 := by
      intro ls
      induction ls with
      | nil => exact fun _ => Nat.le_refl _
      | cons w ls ih =>
        intro hw
        have h0 := hw w List.mem_cons_self
        have := ih fun v hv => hw v (List.mem_cons_of_mem _ hv)
        rw [List.flatMap_cons, List.length_append, lnT_len, List.length_cons]; omega
    have hk : (hkT h).length ≤ 64 := by
      have a := dig_len h.fr.toNat
      have b := dig_len (h.to - h.fr).toNat
      have c := dig_len h.ls.length
      unfold hkT
      simp only [List.length_cons, List.length_append, List.length_nil]; omega
    have := hb h.ls h2
    rw [prF_cons, List.length_append, List.length_append, List.length_cons]
    omega
theorem par_bounds {s : W} (hs : s.length ≤ 1000) {l : List Hk} (h : prF l = s) : l.length ≤ 1000 ∧ lsOk l ∧ gHk l = true := by
  obtain ⟨h1, h2⟩ := prF_len l
  rw [h] at h1 h2
  exact ⟨by omega, fun g hg => ⟨by have := (h2 g hg).1; omega, fun w hw => by have := (h2 g hg).2 w hw; omega⟩, gHk_t (by omega) fun g hg => by have := (h2 g hg).1; omega⟩

theorem rParseA_holds : Holds k_rParse := rParse_holds rPrint_holds
theorem run_DiffParses (l : List Hk) (s : ByteArray) : Runs (cfg [k_alive, k_hunksA, k_rright, k_plain, k_dPrint, k_rPrint, k_dParse, k_rParse, k_Same]) (.enter 5 [.lf (.lst 46 (eHs l)), .lf (.str s)] []) [.bool true] := by
  refine Runs.by (lParses_e · _ _) ?_
  simp only [isHs_e, dHs_e, Bool.true_and, cond_true]
  cases hl : hunksF l
  · exact .ret
  obtain ⟨hl, hs⟩ := hunksF_of hl
  simp only [Bool.not_true, cond_false]
  refine RunsF.cond (fun _ => .ret) fun c => ?_
  have c := ltI_f c
  have hz : (bl s).length ≤ 1000 := by
    have : (bl s).length = s.size := rfl
    omega
  have g1 : sm l.length = true := sm_t (by omega)
  have g2 : (l.all fun h => sm (List.length (Hk.ls h)) && List.all (Hk.ls h) fun s => sm (List.length s)) = true := by
    rw [List.all_eq_true]
    intro h hh
    rw [sm_t (by have := (hs h hh).1; omega), Bool.true_and, List.all_eq_true]
    exact fun w hw => sm_t (by have := (hs h hh).2 w hw; omega)
  have g3 : gHk ((parR (bl s)).getD []) = true := by
    cases hp : parR (bl s) with
    | none => rfl
    | some k => exact (par_bounds hz (parR_sound hp).2.1).2.2
  have g4 : rightF l 2000 = 0 → prOk l = true := fun hr => prOk_t (by omega) (fun h hh => ⟨by have := (hs h hh).1; omega, fun w hw => by have := (hs h hh).2 w hw; omega⟩) hr
  simp only [g1, g2, g3, ← par_eq (s := bl s) (by omega), sm_t (n := (bl s).length) (by omega), Nat.ble_eq_true_of_le (show (bl s).length ≤ 2000 by omega), Bool.and_self, cond_true, decide_true, beq_self_eq_true]
  by_cases hr : rightF l 2000 = 0
  · rw [hr]
    simp only [g4 hr, beq_self_eq_true, Bool.not_true, cond_true, cond_false]
    cases plainF l
    · exact .ret
    · exact .ret
  · have : (rightF l 2000 == 0) = false := by simpa using hr
    simp only [this, cond_false]
    exact .ret

theorem run_DiffAgain (l : List Hk) (s : ByteArray) : Runs (cfg [k_alive, k_hunksA, k_right, k_plain, k_dPrint, k_dParse, k_Same]) (.enter 8 [.lf (.lst 46 (eHs l)), .lf (.str s)] []) [.bool true] := by
  refine Runs.by (lAgain_e · _ _) ?_
  simp only [isHs_e, dHs_e, Bool.true_and, cond_true]
  cases hl : hunksF l
  · exact .ret
  obtain ⟨hl, hs⟩ := hunksF_of hl
  simp only [Bool.not_true, cond_false]
  refine RunsF.cond (fun _ => .ret) fun c => ?_
  have c := ltI_f c
  have hz : (bl s).length ≤ 1000 := by
    have : (bl s).length = s.size := rfl
    omega
  have g1 : sm l.length = true := sm_t (by omega)
  have g2 : (l.all fun h => sm (List.length (Hk.ls h)) && List.all (Hk.ls h) fun s => sm (List.length s)) = true := by
    rw [List.all_eq_true]
    intro h hh
    rw [sm_t (by have := (hs h hh).1; omega), Bool.true_and, List.all_eq_true]
    exact fun w hw => sm_t (by have := (hs h hh).2 w hw; omega)
  have g3 : gHk l = true := gHk_t (by omega) fun h hh => by have := (hs h hh).1; omega
  have g4 : rightF l 2000 = 0 → prOk l = true := fun hr => prOk_t (by omega) (fun h hh => ⟨by have := (hs h hh).1; omega, fun w hw => by have := (hs h hh).2 w hw; omega⟩) hr
  have g5 : sm (bl (mk (prF l))).length = true := sm_t (by
    have : (bl (mk (prF l))).length = (prF l).length := rfl
    have h1 := prF_bound l hs
    have h2 : l.length * 9000 ≤ 40 * 9000 := Nat.mul_le_mul_right _ hl
    omega)
  have g6 : rightF l 2000 = 0 → plainF l = true → parR (bl (mk (prF l))) = some l := fun hr hp => parR_full hr hp fun g hg => by have := (hs g hg).1; omega
  have tail : ∀ (T : List L), T = [.bool true] → True := fun _ _ => trivial
  cases hp : parR (bl s) with
  | none =>
    simp only [g1, g2, g3, g5, sm_t (n := (bl s).length) (by omega), Option.isSome_none, Option.getD_none, Bool.and_self, cond_true, cond_false, beq_self_eq_true]
    by_cases hr : rightF l 2000 = 0
    · rw [hr]
      simp only [g4 hr, beq_self_eq_true, cond_true]
      cases hq : plainF l
      · exact .ret
      · simp only [g6 hr hq, Option.isSome_some, Option.getD_some, g3, cond_true, Bool.and_self, decide_true, Bool.not_true, cond_false, bne_self_eq_false]
        exact .ret
    · have : (rightF l 2000 == 0) = false := by simpa using hr
      simp only [this, cond_false]
      exact .ret
  | some k =>
    obtain ⟨q1, q2, q3⟩ := parR_sound hp
    obtain ⟨q4, q5, q6⟩ := par_bounds hz q2
    have q7 : prOk k = true := prOk_t (by omega) q5 q1
    have q8 : bl (mk (prF k)) = bl s := by rw [q2]
    simp only [g1, g2, g3, g5, q1, q7, q8, sm_t (n := (bl s).length) (by omega), sm_t (n := k.length) (by omega), Option.isSome_some, Option.getD_some, Bool.and_self, cond_true, cond_false, beq_self_eq_true, bne_self_eq_false]
    by_cases hr : rightF l 2000 = 0
    · rw [hr]
      simp only [g4 hr, beq_self_eq_true, cond_true]
      cases hq : plainF l
      · exact .ret
      · simp only [g6 hr hq, Option.isSome_some, Option.getD_some, g3, cond_true, Bool.and_self, decide_true, Bool.not_true, cond_false, bne_self_eq_false]
        exact .ret
    · have : (rightF l 2000 == 0) = false := by simpa using hr
      simp only [this, cond_false]
      exact .ret
end Go.Ab
