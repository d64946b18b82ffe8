/- A load may be taken first. (After Derived/OrdersHeld's law, with a condition on the operations that may come ahead.) -/
import Derived.Test.YtnalffdkchhcoaaGreatDoorPartAb2
namespace Go.Ab
section
variable {P : Program} {ops : Array Oper} {Q : Exit → Act → World → Prop}

theorem waiters_mem {listed : Array Bool} {i j : Nat} : ∀ {n : Nat}, j ∈ waiters ops listed i n → j ≠ i ∧ listed.getD j true = false ∧ ∃ m, m < n ∧ ∃ o, ops[j]? = some o ∧ ∃ e ∈ o.after, Region.binds .any e = true ∧ (e.on = i ∨ e.on ∈ waiters ops listed i m)
  | 0, h => by simp [waiters] at h
  | n + 1, h => by
    simp only [waiters, List.mem_filter, List.mem_range, Bool.and_eq_true, bne_iff_ne, Bool.not_eq_true'] at h
    obtain ⟨_, h1, h2, h3⟩ := h
    refine ⟨h1, h2, n, Nat.lt_succ_self _, ?_⟩
    split at h3
    · rename_i o ho
      obtain ⟨e, he, hb⟩ := Array.any_eq_true'.1 h3
      simp only [Bool.and_eq_true, Bool.or_eq_true, beq_iff_eq, List.contains_iff_mem] at hb
      exact ⟨o, ho, e, he, hb⟩
    · cases h3

def Keeps (fz : Fz) (w w' : World) : Prop := Kp fz w w'
theorem Keeps.refl (fz : Fz) (w : World) : Keeps fz w w := Kp.refl _ _

def wpAnyF (P : Program) (ops : Array Oper) (Q : Exit → Act → World → Prop) : Nat → Array Bool → Fz → Act → World → Prop
  | 0, listed, _, a, w => Region.ready .any ops listed = [] ∧ Q .normal a w
  | fuel + 1, listed, fz, a, w =>
    (Region.ready .any ops listed = [] → Q .normal a w) ∧
    ∀ i ∈ Region.ready .any ops listed, wpOp P ops Q i (fun a' w' => Keeps fz w w' ∧ ∃ fz' : Fz, (∀ g o, fz g o → fz' g o) ∧ wpAnyF P ops Q fuel (listed.setIfInBounds i true) fz' a' w') a w

theorem wpAny_of_F : ∀ (fuel : Nat) (listed : Array Bool) (fz : Fz) (a : Act) (w : World), wpAnyF P ops Q fuel listed fz a w → wpAny P .any ops Q fuel listed a w
  | 0, _, _, _, _, h => h
  | fuel + 1, _, _, _, _, h => ⟨h.1, fun i hi => wpOp_mono (fun a' w' ⟨_, fz', _, h'⟩ => wpAny_of_F fuel _ fz' a' w' h') (h.2 i hi)⟩
theorem wpAnyF_sub : ∀ (fuel : Nat) (listed : Array Bool) (fz fz' : Fz) (a : Act) (w : World), (∀ g o, fz g o → fz' g o) → wpAnyF P ops Q fuel listed fz' a w → wpAnyF P ops Q fuel listed fz a w
  | 0, _, _, _, _, _, _, h => h
  | _ + 1, _, _, _, _, _, hs, h => ⟨h.1, fun i hi => wpOp_mono (fun _ _ ⟨hk, f2, h2, h'⟩ => ⟨⟨fun g o v hf hc => hk.1 g o v (hs g o hf) hc, fun g es c hf hc => hk.2 g es c (hs g 0 hf) hc⟩, f2, fun g o hf => h2 g o (hs g o hf), h'⟩) (h.2 i hi)⟩
theorem wpAnyF_all {rs : List Nat} {fuel : Nat} {listed : Array Bool} {fz : Fz} {a : Act} {w : World} (hr : Region.ready .any ops listed = rs) (hne : rs ≠ [])
    (h : ∀ i ∈ rs, wpOp P ops Q i (fun a' w' => Keeps fz w w' ∧ ∃ fz' : Fz, (∀ g o, fz g o → fz' g o) ∧ wpAnyF P ops Q fuel (listed.setIfInBounds i true) fz' a' w') a w) : wpAnyF P ops Q (fuel + 1) listed fz a w :=
  ⟨fun h0 => absurd (hr ▸ h0) hne, hr ▸ h⟩
theorem wpAnyF_done {listed : Array Bool} {fz : Fz} {a : Act} {w : World} (hr : Region.ready .any ops listed = []) (h : Q .normal a w) : ∀ fuel, wpAnyF P ops Q fuel listed fz a w
  | 0 => ⟨hr, h⟩
  | _ + 1 => ⟨fun _ => h, by rw [hr]; simp⟩

theorem hoist {S : World → Prop} {G : Act → Prop} {i : Nat} {oi : Oper} {v : Value} {listed0 : Array Bool} {N : Nat} {fz0 : Fz} (hi : ops[i]? = some oi)
    (hsel : ∀ (j : Nat) (o : Oper) cs b, ops[j]? = some o → o.op ≠ .select cs b)
    (hQ : ∀ c a w, Q (.panic c) (a.put oi.dst v) w → Q (.panic c) a w)
    (hG : ∀ a, G (a.put oi.dst v) ↔ G a)
    (hoth : ∀ j oj, ops[j]? = some oj → j ≠ i → listed0.getD j true = false → j ∉ waiters ops listed0 i N → oi.apart ops oj = true ∧
      ∀ (fz : Fz) (a : Act) (w : World) (K : Act → World → Prop), (∀ g o, fz0 g o → fz g o) → S w → G a → wpOp P ops Q j (fun a' w' => Keeps fz w w' ∧ K a' w') a w → wpOp P ops Q j (fun a' w' => (S w' ∧ G a') ∧ Keeps fz w w' ∧ K a' w') a w) :
    ∀ (fuel : Nat) (listed : Array Bool) (fz : Fz) (a : Act) (w : World), (∀ g o, fz0 g o → fz g o) → (∀ j, listed.getD j true = false → listed0.getD j true = false) → (∀ n ≤ N, ∀ j ∈ waiters ops listed0 i n, listed.getD j true = false) →
      i ∈ Region.ready .any ops listed → YieldsIf P ops S oi v a → S w → G a →
      wpAnyF P ops Q fuel (listed.setIfInBounds i true) fz (a.put oi.dst v) w → wpAnyF P ops Q (fuel + 1) listed fz a w := by
  intro fuel
  induction fuel with
  | zero =>
    intro listed fz a w hfz hl hW hr hy hS hGa H
    refine ⟨fun h => (by rw [h] at hr; cases hr), fun j hj => ?_⟩
    by_cases hji : j = i
    · subst hji; exact hy.wpOp hi hS ⟨.refl _ _, fz, fun _ _ h => h, H⟩
    · have := ready_mono hj hji
      rw [H.1] at this
      cases this
  | succ fuel ih =>
    intro listed fz a w hfz hl hW hr hy hS hGa H
    refine ⟨fun h => (by rw [h] at hr; cases hr), fun j hj => ?_⟩
    by_cases hji : j = i
    · subst hji; exact hy.wpOp hi hS ⟨.refl _ _, fz, fun _ _ h => h, H⟩
    · have h1 := H.2 j (ready_mono hj hji)
      obtain ⟨hjun, oj, hoj, hall⟩ := mem_ready.1 hj
      have hiun := (mem_ready.1 hr).1
      have unl : ∀ k, listed.getD k true = false → listed.getD k false = true → False := by
        intro k h0 h1
        rcases Nat.lt_or_ge k listed.size with h' | h'
        · simp [h'] at h0 h1; rw [h0] at h1; cases h1
        · simp [Array.getElem?_eq_none h'] at h1
      have hnw : ∀ n ≤ N, j ∉ waiters ops listed0 i n := by
        intro n hn hm
        obtain ⟨_, _, m, hmn, o, ho, e, he, hb, hor⟩ := waiters_mem hm
        rw [hoj] at ho; cases ho
        have hli := hall e he hb
        rcases hor with rfl | hor
        · exact unl _ hiun hli
        · exact unl _ (hW m (by omega) _ hor) hli
      obtain ⟨hap, hkeep⟩ := hoth j oj hoj hji (hl j hjun) (hnw N (Nat.le_refl _))
      have h2 := hkeep fz _ _ _ hfz hS ((hG a).2 hGa) h1
      have h3 := wpOp_putIf hoj hap (fun cs b => hsel i oi cs b hi) (fun cs b => hsel j oj cs b hoj) hQ hy h2
      refine wpOp_mono (fun a' w' h4 => ?_) h3
      obtain ⟨h5, ⟨h6, h7⟩, h8, fz', h9, h10⟩ := h4
      refine ⟨h8, fz', h9, ih (listed.setIfInBounds j true) fz' a' w' (fun g o h => h9 g o (hfz g o h)) (fun k hk => ?_) (fun n hn k hk => ?_) (ready_mono hr (Ne.symm hji)) h5 h6 ((hG a').1 h7) ?_⟩
      · by_cases hjk : j = k
        · subst hjk; exact hl _ hjun
        · rw [getD_set_ne true hjk] at hk; exact hl k hk
      · have hjk : j ≠ k := fun e => hnw n hn (e ▸ hk)
        rw [getD_set_ne true hjk]; exact hW n hn k hk
      · rw [Array.setIfInBounds_comm _ _ hji]; exact h10

theorem wpOp_only {T : Nat → Prop} {j : Nat} {oj : Oper} (hj : ops[j]? = some oj) {K : Act → World → Prop} {a : Act} {w : World} (h : Only T Tame (execOp a.eval oj)) (hT : Rowed T w) (hk : wpOp P ops Q j K a w) :
    wpOp P ops Q j (fun a' w' => Kept T w w' ∧ (∃ u, a' = a.put oj.dst u) ∧ K a' w') a w := by
  unfold wpOp at *
  simp only [hj] at *
  split
  · rename_i hw
    simp only [hw, if_true] at hk
    refine hk.imp (fun hk => ?_) id
    unfold Oper.wp at *
    cases hr : (execOp a.eval oj).run P w with
    | ok n w' =>
      obtain ⟨h1, h2⟩ := Only.run h hT hr
      rw [hr] at hk
      rcases h1 with ⟨v, rfl⟩ | rfl
      · exact ⟨h2, ⟨v, rfl⟩, hk⟩
      · exact ⟨h2, ⟨undef, rfl⟩, hk⟩
    | halt x w' =>
      rw [hr] at hk
      cases x <;> simp only [Oper.upon] at hk ⊢ <;> exact hk
  · rename_i hw
    simp only [hw] at hk
    exact ⟨⟨Nat.le_refl _, fun _ _ _ => rfl, hT⟩, ⟨undef, rfl⟩, hk⟩

end
end Go.Ab
namespace Go.Ab
section
variable {C : Cfg} {w w' : World} {fz fz' : Fz} {ρ ρ' : Rho} {Wr : Nat → Prop} {a : Act} {st : St} {ops : Array Oper}

theorem Sim.setSame (S : Sim C.P w fz ρ Wr a st) {t : Nat} {d : D} (h : st.tm.getD t (.lf .any) = d) (hd : d ≠ .lf .any) : Sim C.P w fz ρ Wr a { st with tm := st.tm.set t d } ∧ ∃ v, a.tmps[t]? = some v ∧ RepD (Rep C.P w fz ρ) v d := by
  have ht : st.tm[t]? = some d := by
    cases e : st.tm[t]? with
    | none => simp [List.getD, e] at h; exact absurd h.symm hd
    | some x => simp [List.getD, e] at h; rw [h]
  obtain ⟨v, h1, h2⟩ := S.tm.get _ t d ht
  refine ⟨⟨?_, S.hp⟩, v, by simpa using h1, h2⟩
  have : a.tmps.toList = a.tmps.toList.set t v := by
    refine List.ext_getElem? fun i => ?_
    rw [List.getElem?_set]
    split
    · rename_i e; subst e
      split
      · exact h1
      · rename_i hn; rw [List.getElem?_eq_none (Nat.le_of_not_lt hn)]
    · rfl
  rw [this]
  exact S.tm.set _ t h2

theorem guardA_sound {o : Oper} {yes no : St → R} {r : List L} (S : Sim C.P w fz ρ Wr a st) (h : guardA ops.toList o st yes no = some r) :
    (Region.wanted o (yielded ops a.tmps) = true ∧ ∃ st1, yes st1 = some r ∧ Sim C.P w fz ρ Wr a st1 ∧ st1.hp = st.hp) ∨
    (Region.wanted o (yielded ops a.tmps) = false ∧ ∃ st1, no st1 = some r ∧ Sim C.P w fz ρ Wr a st1 ∧ st1.hp = st.hp) := by
  unfold guardA at h
  split at h
  · rename_i hg
    exact .inl ⟨by simp [Region.wanted, hg], st, h, S, rfl⟩
  · rename_i j want hg
    rw [Array.getElem?_toList] at h
    split at h
    · rename_i hd
      refine .inr ⟨?_, st, h, S, rfl⟩
      simp [Region.wanted, hg, yielded, hd]
    · rename_i t hd
      split at h
      · rename_i b hb
        obtain ⟨S1, v, hv, hr⟩ := S.setSame hb (by simp)
        have hv' : v = .bool b := rep_bool hr
        subst hv'
        have hy : yielded ops a.tmps j = some b := by simp [yielded, hd, hv]
        split at h
        · cases b
          · exact .inr ⟨by simp [Region.wanted, hg, hy], _, h, S1, rfl⟩
          · exact .inl ⟨by simp [Region.wanted, hg, hy], _, h, S1, rfl⟩
        · cases b
          · exact .inl ⟨by simp [Region.wanted, hg, hy], _, h, S1, rfl⟩
          · exact .inr ⟨by simp [Region.wanted, hg, hy], _, h, S1, rfl⟩
      · rename_i hb
        obtain ⟨S1, v, hv, hr⟩ := S.setSame hb (by simp)
        obtain ⟨vs, rfl, _⟩ := hr
        have hy : yielded ops a.tmps j = none := by simp [yielded, hd, hv]
        exact .inr ⟨by simp [Region.wanted, hg, hy], _, h, S, rfl⟩
      · cases h

def Good (C : Cfg) (w : World) (fz : Fz) (ρ : Rho) (Wr : Nat → Prop) (df : List Deferred) (κ : St → R) (r : List L) (a' : Act) (w' : World) : Prop :=
  ∃ st' fz' ρ', κ st' = some r ∧ Sim C.P w' fz' ρ' Wr a' st' ∧ Mv Wr w fz w' fz' ∧ RhoLe ρ ρ' ∧ a'.defers = df

theorem Act.put_df (a : Act) (dst : Option Tmp) (v : Value) : (a.put dst v).defers = a.defers := by cases dst <;> rfl

theorem wr_mono (hw : Env C w Wr) (M : Mv Wr w fz w' fz') : Env C w' Wr := ⟨fun k hk => hw.1 k (Nat.le_trans M.size hk), hw.2.move M⟩

theorem Good.trans {df : List Deferred} {κ : St → R} {r : List L} {a' : Act} {w2 : World} (M : Mv Wr w fz w' fz') (L : RhoLe ρ ρ') (h : Good C w' fz' ρ' Wr df κ r a' w2) : Good C w fz ρ Wr df κ r a' w2 := by
  obtain ⟨st', f, q, h1, h2, h3, h4, h5⟩ := h
  exact ⟨st', f, q, h1, h2, M.trans h3, L.trans h4, h5⟩

theorem opW_sound {G : Req → R} (hG : EnterOk C G) (hE : ExtOk C) (hN : NoCount C.P) (S : Sim C.P w fz ρ Wr a st) (hw : Env C w Wr) {i : Nat} {o : Oper} (hi : ops[i]? = some o) {κ : St → R} {r : List L}
    (h : opW C G ops.toList o st κ = some r) {K : Act → World → Prop} {Q : Exit → Act → World → Prop} (hk : ∀ a' w', Good C w fz ρ Wr a.defers κ r a' w' → K a' w') : wpOp C.P ops Q i K a w := by
  unfold wpOp
  simp only [hi]
  rcases guardA_sound S h with ⟨hy, st1, h1, S1, e1⟩ | ⟨hy, st1, h1, S1, e1⟩
  · simp only [hy, if_true]
    refine .inl (opA_sound hG hE hN S1 hw h1 fun v w' hA => ?_)
    obtain ⟨d, st', fz', ρ', k1, k2, k3, k4, k5⟩ := hA
    exact hk _ _ ⟨_, fz', ρ', k1, k3.putTmp o.dst k2, k4, k5, Act.put_df _ _ _⟩
  · simp only [hy, Bool.false_eq_true, if_false]
    exact hk _ _ ⟨_, fz, ρ, h1, S1.putTmp o.dst rep_undef, .refl _ _ _, .refl ρ, Act.put_df _ _ _⟩

theorem pureW_sound {o : Oper} {κ : St → R} {r : List L} (S : Sim C.P w fz ρ Wr a st) (h : pureW C ops.toList o st κ = some r) :
    ∃ v, YieldsIf C.P ops (fun w' => Loads o.op = true → ∀ k, k < w.heap.size → w'.heap[k]? = w.heap[k]?) o v a ∧ Good C w fz ρ Wr a.defers κ r (a.put o.dst v) w := by
  rcases guardA_sound S h with ⟨hy, st1, h1, S1, e1⟩ | ⟨hy, st1, h1, S1, e1⟩
  · split at h1
    · rename_i g d hp hpure
      obtain ⟨hg, h1⟩ := cond_some h1
      obtain ⟨v, fz', p1, p2, p3, p4, p5⟩ := pureA_sound S1 hpure hg
      exact ⟨v, .inl ⟨hy, p1⟩, _, fz', ρ, h1, (S1.fzmono p4.1 p3).putTmp o.dst p2, .of_fz p4, .refl ρ, Act.put_df _ _ _⟩
    · cases h1
  · exact ⟨undef, .inr ⟨hy, rfl⟩, _, fz, ρ, h1, S1.putTmp o.dst rep_undef, .refl _ _ _, .refl ρ, Act.put_df _ _ _⟩

theorem opsA_sound {G : Req → R} (hG : EnterOk C G) (hE : ExtOk C) (hN : NoCount C.P) {κ : St → R} {r : List L} {Q : Exit → Act → World → Prop} :
    ∀ (l : List Oper) (k : Nat) {w : World} {fz : Fz} {ρ : Rho} {a : Act} {st : St}, l = ops.toList.drop k → Sim C.P w fz ρ Wr a st → Env C w Wr → opsA C G ops.toList l st κ = some r →
      (∀ a' w', Good C w fz ρ Wr a.defers κ r a' w' → Q .normal a' w') → wpOps C.P ops Q (List.range' k l.length) a w
  | [], k, w, fz, ρ, a, st, _, S, hw, h, hk => hk _ _ ⟨st, fz, ρ, h, S, .refl _ _ _, .refl ρ, rfl⟩
  | o :: l, k, w, fz, ρ, a, st, hl, S, hw, h, hk => by
    have hi : ops[k]? = some o := by
      have : (ops.toList.drop k)[0]? = some o := by rw [← hl]; rfl
      simpa using this
    have hl' : l = ops.toList.drop (k + 1) := by
      have : (ops.toList.drop k).drop 1 = l := by rw [← hl]; rfl
      rw [← this, List.drop_drop]
    rw [List.length_cons, List.range'_succ, wpOps_cons]
    refine opW_sound hG hE hN S hw hi h fun a' w' hg => ?_
    obtain ⟨st', fz', ρ', k1, k2, k3, k4, k5⟩ := hg
    refine opsA_sound hG hE hN l (k + 1) hl' k2 (wr_mono hw k3) k1 fun a2 w2 hg2 => hk a2 w2 ?_
    rw [k5] at hg2
    exact hg2.trans k3 k4

end
end Go.Ab
namespace Go.Ab
section
variable {C : Cfg} {w w' : World} {fz fz' : Fz} {ρ ρ' : Rho} {Wr : Nat → Prop} {a : Act} {st : St} {ops : Array Oper}

theorem ahead_loads {o : Op} (h : ahead o = true) : Loads o = false := by
  cases o <;> simp [ahead] at h <;> rfl

theorem loadFirst_spec {listed : Array Bool} {i : Nat} (h : loadFirst ops listed st i = true) : ∃ oi t x, ops[i]? = some oi ∧ oi.op = .load t x ∧ (∀ b ob, st.leaf x = .ptr b ob → ∃ ks cs, st.hp.getD b .dead = .box ks cs) ∧
    ∀ j oj, ops[j]? = some oj → j ≠ i → listed.getD j true = false → j ∉ waiters ops listed i 5 → oi.apart ops oj = true ∧ ((leaves oj.op = true ∨ ∃ b ob, st.leaf x = .ptr b ob ∧ storesElse ops listed st b oj.op = true) ∨ ((∃ e el o, st.leaf x = .eptr e el o) ∧ oi.guard = none)) := by
  unfold loadFirst at h
  split at h
  case h_2 => cases h
  rename_i oi hi
  split at h
  case h_2 => cases h
  rename_i t x hop
  rw [Bool.and_eq_true] at h
  obtain ⟨h0, h⟩ := h
  refine ⟨oi, t, x, hi, hop, fun b ob hl => ?_, fun j oj hj hji hun hnw => ?_⟩
  · rw [hl] at h0
    simp only at h0
    split at h0
    · rename_i ks cs hb; exact ⟨ks, cs, hb⟩
    · cases h0
  simp only [List.all_eq_true, List.mem_range] at h
  have h1 := h j (Array.getElem?_eq_some_iff.1 hj).1
  have hc : (waiters ops listed i 5).contains j = false := by
    rw [Bool.eq_false_iff]; intro e; exact hnw (by simpa using e)
  have hji' : (j == i) = false := by simpa using hji
  simp only [hj, hji', hun, hc, Bool.false_or, Bool.and_eq_true, Bool.or_eq_true] at h1
  refine ⟨h1.1, ?_⟩
  rcases h1.2 with h2 | h2
  · exact .inl (.inl h2)
  split at h2
  · rename_i b ob hl
    exact .inl (.inr ⟨b, ob, hl, h2⟩)
  · rename_i e el o hl
    exact .inr ⟨⟨e, el, o, hl⟩, by simpa using h2⟩
  · cases h2

theorem storesElse_spec {listed : Array Bool} {b : Nat} {o : Op} (h : storesElse ops listed st b o = true) : ∃ t x y b' o' ks cs, o = .store t (.tmp x) y ∧ st.leaf (.tmp x) = .ptr b' o' ∧ b' ≠ b ∧ st.hp.getD b' .dead = .box ks cs ∧
    ∀ j oj, ops[j]? = some oj → listed.getD j true = false → oj.dst ≠ some x := by
  unfold storesElse at h
  split at h
  case h_2 => cases h
  rename_i t x y
  simp only [Bool.and_eq_true] at h
  obtain ⟨h1, h2⟩ := h
  split at h1
  case h_2 => cases h1
  rename_i b' o' hl
  simp only [Bool.and_eq_true, bne_iff_ne] at h1
  obtain ⟨h1, h3⟩ := h1
  split at h3
  case h_2 => cases h3
  rename_i ks cs hb
  refine ⟨t, x, y, b', o', ks, cs, rfl, hl, h1, hb, fun j oj hj hun => ?_⟩
  simp only [List.all_eq_true, List.mem_range] at h2
  have h4 := h2 j (Array.getElem?_eq_some_iff.1 hj).1
  simp only [hj, hun, Bool.false_or, bne_iff_ne] at h4
  exact h4

theorem put_get {t : Nat} {dst : Option Tmp} (h : dst ≠ some t) (v : Value) : (a.put dst v).tmps[t]? = a.tmps[t]? := by
  cases dst with
  | none => rfl
  | some d =>
    have : d ≠ t := fun e => h (e ▸ rfl)
    simp [Act.put, Array.getElem?_setIfInBounds_ne this]

theorem load_block {t : TypeId} {x : Operand} {o : Oper} {b ob : Nat} {g : Bool} {d : D} {hp : List B} (hop : o.op = .load t x) (hl : st.leaf x = .ptr b ob) (h : pureA C o st = some (g, d, hp)) : ∃ ks cs, st.hp.getD b .dead = .box ks cs := by
  unfold pureA at h
  simp only [hop, pLoad, hl] at h
  split at h
  case h_2 => cases h
  rename_i d' hd
  unfold loadA at hd
  dsimp only at hd
  split at hd
  case isFalse => cases hd
  split at hd
  · rename_i ks cs hb; exact ⟨ks, cs, hb⟩
  · cases hd

theorem load_takeM {i : Nat} {listed : Array Bool} {κ : St → R} {r : List L} {o : Oper} {Q : Exit → Act → World → Prop} {n : Nat} (S : Sim C.P w fz ρ Wr a st) (hs : Region.noSelect ops = true) (hi : ops[i]? = some o) (hlf : loadFirst ops listed st i = true)
    (hr : i ∈ Region.ready .any ops listed) (hQ : ∀ c a w, Q (.panic c) a w → False) (h : pureW C ops.toList o st κ = some r)
    (hne : ∀ t x oi, ops[i]? = some oi → oi.op = .load t x → ¬ ((∃ e el o, st.leaf x = .eptr e el o) ∧ oi.guard = none))
    (hk : ∀ a' , Good C w fz ρ Wr a.defers κ r a' w → wpAnyF C.P ops Q n (listed.setIfInBounds i true) fz a' w) : wpAnyF C.P ops Q (n + 1) listed fz a w := by
  obtain ⟨oi, t, x, hi', hop, hbox, hall⟩ := loadFirst_spec hlf
  rw [hi] at hi'; cases hi'
  have hne' := hne t x o hi hop
  obtain ⟨v, hy, hgood⟩ := pureW_sound S h
  have hiun := (mem_ready.1 hr).1
  let Tm : Nat → Prop := fun t' => ∀ j oj, ops[j]? = some oj → listed.getD j true = false → oj.dst ≠ some t'
  let T : Nat → Prop := fun g => ∃ x' b' o' b ob ad, Tm x' ∧ st.leaf (.tmp x') = .ptr b' o' ∧ st.leaf x = .ptr b ob ∧ b' ≠ b ∧ (∃ ks cs, st.hp.getD b' .dead = .box ks cs) ∧ ρ b' = some (.pointer (some ad)) ∧ g = ad.block
  have hT0 : Rowed T w := by
    rintro g ⟨x', b', o', b, ob, ad, _, _, _, _, ⟨ks, cs, hb⟩, hρ, rfl⟩
    have hB := S.hp.blk b'
    rw [hb] at hB
    obtain ⟨g', us, tt, e1, e2, _⟩ := hB
    rw [hρ] at e1; cases e1
    exact ⟨us, tt, _, e2⟩
  -- what it yields wherever the old blocks but those stored to stand
  have hy' : YieldsIf C.P ops (Kept T w) o v a := by
    rcases hy with ⟨hw, hrun⟩ | ⟨hw, rfl⟩
    case inr => exact .inr ⟨hw, rfl⟩
    refine .inl ⟨hw, fun w' hkept => ?_⟩
    by_cases hp : ∃ b ob, st.leaf x = .ptr b ob
    · obtain ⟨b, ob, hl⟩ := hp
      obtain ⟨ks, cs, hb⟩ := hbox b ob hl
      have hB := S.hp.blk b
      rw [hb] at hB
      obtain ⟨g, us, tt, e1, e2, _⟩ := hB
      have hx := S.leaf x
      rw [hl] at hx
      have hev : a.eval x = .pointer (some (Addr.add ⟨g, 0, none⟩ ob)) := by
        generalize a.eval x = vx at hx
        cases hx with
        | ptr _ _ ad h1 => rw [e1] at h1; cases h1; rfl
      have hng : ¬ T g := by
        rintro ⟨x', b', o', b2, ob2, ad, _, _, hl2, hne, ⟨ks', cs', hb'⟩, hρ, hg⟩
        rw [hl] at hl2; cases hl2
        exact S.hp.dis b' b _ _ g hne (by rw [hb']; simp) (by rw [hb]; simp) hρ e1 (.of (by simp [bk, hg])) (.of (by simp [bk]))
      have hlt := (Array.getElem?_eq_some_iff.1 e2).1
      have hsame := hkept.2.1 g hlt hng
      have hrw := hrun w (fun _ _ _ => rfl)
      have hloc : Local g (execOp a.eval o) := by
        simp only [execOp, hop, hev]
        refine Local.bind (g := g) ?_ fun _ => trivial
        have := local_loadAt t (Addr.add ⟨g, 0, none⟩ ob)
        rw [add_block] at this
        exact this
      exact Local.run hloc e2 (hsame.trans e2) hrw
    · refine hrun w' fun _ k hkk => hkept.2.1 k hkk ?_
      rintro ⟨x', b', o', b, ob, ad, _, _, hl, _⟩
      exact hp ⟨b, ob, hl⟩
  refine hoist (S := Kept T w) (G := fun a' => ∀ t', Tm t' → a'.tmps[t']? = a.tmps[t']?) (N := 5) (listed0 := listed) (fz0 := fz) hi (Region.noSelect_spec hs) (fun c a w hq => (hQ _ _ _ hq).elim) (fun a' => ?_) (fun j oj hj hji hun hnw => ?_) n listed fz a w (fun _ _ h => h) (fun _ h => h)
    (fun m _ k hm => (waiters_mem hm).2.1) hr hy' ⟨Nat.le_refl _, fun _ _ _ => rfl, hT0⟩ (fun _ _ => rfl) (hk _ hgood)
  · have : ∀ t', Tm t' → (a'.put o.dst v).tmps[t']? = a'.tmps[t']? := fun t' ht => put_get (ht i o hi hiun) v
    exact ⟨fun hh t' ht => (this t' ht).symm.trans (hh t' ht), fun hh t' ht => (this t' ht).trans (hh t' ht)⟩
  · obtain ⟨hap, hor⟩ := hall j oj hj hji hun hnw
    have hor := hor.resolve_right hne'
    refine ⟨hap, fun fz1 a1 w1 K _ hS1 hG1 hK => ?_⟩
    have honly : Only T Tame (execOp a1.eval oj) := by
      rcases hor with hlv | ⟨b, ob, hl, hst⟩
      · exact only_leaves hlv a1
      · obtain ⟨tt, x', y, b', o', ks, cs, hop', hl', hne, hb', hTm⟩ := storesElse_spec hst
        have hx := S.leaf (.tmp x')
        rw [hl'] at hx
        have hev : a1.eval (.tmp x') = a.eval (.tmp x') := by
          have := hG1 x' hTm
          simp [Act.eval, this]
        simp only [execOp, hop', hev]
        refine only_u (only_storeAt _ _ _ fun ad had => ?_)
        generalize a.eval (.tmp x') = vx at hx had
        subst had
        have : ∀ vx, Rep C.P w fz ρ vx (.ptr b' o') → ∀ ad, vx = .pointer (some ad) → ∃ ad0, ρ b' = some (.pointer (some ad0)) ∧ ad = ad0.add o' := by
          intro vx hx ad e
          cases hx with
          | ptr _ _ ad0 h1 => cases e; exact ⟨ad0, h1, rfl⟩
        obtain ⟨ad0, q1, rfl⟩ := this _ hx ad rfl
        exact ⟨x', b', o', b, ob, ad0, hTm, hl', hl, hne, ⟨ks, cs, hb'⟩, q1, add_block _ _⟩
    refine wpOp_mono (fun a2 w2 h2 => ?_) (wpOp_only hj honly hS1.2.2 hK)
    obtain ⟨k1, ⟨u, rfl⟩, k3⟩ := h2
    exact ⟨⟨hS1.trans k1, fun t' ht => (put_get (ht j oj hj hun) u).trans (hG1 t' ht)⟩, k3⟩

theorem loadE_sound {t ty : TypeId} {e : List L} {o : Nat} {d : D} {v : Value} (h : loadA C t (.eptr ty e o) st = some d) (hv : Rep C.P w fz ρ v (.eptr ty e o)) :
    ∃ u, (∀ w' : World, Keeps fz w w' → (Instr.loadAt t v).run C.P w' = .ok u w') ∧ RepD (Rep C.P w fz ρ) u d := by
  unfold loadA at h
  simp only [tailN_eq] at h
  try dsimp only at h
  split at h
  case isFalse => cases h
  rename_i hsz
  obtain ⟨hsz, h0⟩ := hsz
  split at h
  case isFalse => cases h
  rename_i hks
  simp only [Option.some.injEq] at h
  cases hv with
  | eptr _ _ _ u ad hconf hc hf hr =>
    have hhas : HasKs (kinds C.P t) ((e.drop o).take (kinds C.P t).length) := by
      have h1 : HasKs (kinds C.P ty) e := hconf
      have := (h1.drop o).take (kinds C.P t).length
      rw [← hks] at this
      exact this
    have hlen := hhas.length
    have hle : ∀ k, k < (kinds C.P t).length → ∃ l, e[o + k]? = some l := fun k hk => by
      have hlt : k < ((e.drop o).take (kinds C.P t).length).length := by rw [hlen]; exact hk
      rw [List.length_take, List.length_drop] at hlt
      exact ⟨e[o + k], List.getElem?_eq_getElem (by omega)⟩
    have hr' : RepLs (Rep C.P w fz ρ) ((List.range (kinds C.P t).length).map fun k => u (o + k)) ((e.drop o).take (kinds C.P t).length) := by
      refine RepLs.of (by simp [hlen]) fun i v l h1 h2 => ?_
      rw [List.getElem?_take] at h2
      split at h2
      · rw [List.getElem?_drop] at h2
        simp only [List.getElem?_map, List.getElem?_range ‹_›, Option.map_some, Option.some.injEq] at h1
        subst h1
        exact hr _ _ h2
      · cases h2
    have hd : d = mkD C.P t ((e.drop o).take (kinds C.P t).length) := by
      rw [← h]
      congr 1
      have := hhas.projs (e.drop o |>.drop (kinds C.P t).length)
      rw [List.take_append_drop] at this
      exact this
    refine ⟨_, fun w' hw' => ?_, hd ▸ rep_mkD (t := t) (by simpa using h0) hr' (fun v => .any v)⟩
    show (Sem.bind _ _).run _ _ = _
    simp only [Instr.sureAddr, pure, Sem.bind]
    refine run_loadVar' hsz h0 (by simp) fun j u' hu' => ?_
    simp only [List.getElem?_map] at hu'
    have hj : j < (kinds C.P t).length := by
      rcases Nat.lt_or_ge j (kinds C.P t).length with h' | h'
      · exact h'
      · simp [h'] at hu'
    simp only [List.getElem?_range hj, Option.map_some, Option.some.injEq] at hu'
    subst hu'
    obtain ⟨l, hl⟩ := hle j hj
    rw [Addr.add_add]
    exact cell_fz hw' (hf _ l hl) (hc _ l hl)
theorem pureE_sound {o : Oper} {t ty : TypeId} {x : Operand} {e : List L} {oo : Nat} {κ : St → R} {r : List L} (S : Sim C.P w fz ρ Wr a st) (hop : o.op = .load t x) (hgd : o.guard = none) (hl : st.leaf x = .eptr ty e oo) (h : pureW C ops.toList o st κ = some r) :
    ∃ v, YieldsIf C.P ops (Keeps fz w) o v a ∧ Good C w fz ρ Wr a.defers κ r (a.put o.dst v) w := by
  unfold pureW guardA at h
  rw [hgd] at h
  simp only at h
  split at h
  case h_2 => cases h
  rename_i g d hp hpure
  obtain ⟨hg, h1⟩ := cond_some h
  unfold pureA at hpure
  simp only [hop, pLoad, hl] at hpure
  split at hpure
  case h_2 => cases hpure
  rename_i d' hd
  simp only [Option.some.injEq, Prod.mk.injEq] at hpure
  obtain ⟨_, rfl, rfl⟩ := hpure
  have hx := S.leaf x
  rw [hl] at hx
  obtain ⟨u, p1, p2⟩ := loadE_sound hd hx
  refine ⟨u, .inl ⟨by simp [Region.wanted, hgd], fun w' hw' => ?_⟩, _, fz, ρ, h1, S.putTmp o.dst p2, .refl _ _ _, .refl ρ, Act.put_df _ _ _⟩
  have := p1 w' hw'
  simp only [execOp, hop, Sem.run_bind, this]
  rfl
theorem load_takeE {i : Nat} {listed : Array Bool} {κ : St → R} {r : List L} {o : Oper} {Q : Exit → Act → World → Prop} {n : Nat} {t ty : TypeId} {x : Operand} {e : List L} {oo : Nat} (S : Sim C.P w fz ρ Wr a st) (hs : Region.noSelect ops = true) (hi : ops[i]? = some o)
    (hop : o.op = .load t x) (hgd : o.guard = none) (hl : st.leaf x = .eptr ty e oo) (hap : ∀ j oj, ops[j]? = some oj → j ≠ i → listed.getD j true = false → j ∉ waiters ops listed i 5 → o.apart ops oj = true)
    (hr : i ∈ Region.ready .any ops listed) (hQ : ∀ c a w, Q (.panic c) a w → False) (h : pureW C ops.toList o st κ = some r)
    (hk : ∀ a' , Good C w fz ρ Wr a.defers κ r a' w → wpAnyF C.P ops Q n (listed.setIfInBounds i true) fz a' w) : wpAnyF C.P ops Q (n + 1) listed fz a w := by
  obtain ⟨v, hy, hgood⟩ := pureE_sound S hop hgd hl h
  exact hoist (S := Keeps fz w) (G := fun _ => True) (N := 5) (listed0 := listed) (fz0 := fz) hi (Region.noSelect_spec hs) (fun c a w hq => (hQ _ _ _ hq).elim) (fun _ => Iff.rfl)
    (fun j oj hj hji hun hnw => ⟨hap j oj hj hji hun hnw, fun fz1 a1 w1 K hf hS1 _ hK => wpOp_mono (fun a' w' h' => ⟨⟨⟨fun g o v hgo hc => h'.1.1 g o v (hf g o hgo) (hS1.1 g o v hgo hc), fun g es c hgo hc => h'.1.2 g es c (hf g 0 hgo) (hS1.2 g es c hgo hc)⟩, trivial⟩, h'⟩) hK⟩)
    n listed fz a w (fun _ _ h => h) (fun _ h => h) (fun m _ k hm => (waiters_mem hm).2.1) hr hy (.refl _ _) trivial (hk _ hgood)
theorem load_take {i : Nat} {listed : Array Bool} {κ : St → R} {r : List L} {o : Oper} {Q : Exit → Act → World → Prop} {n : Nat} (S : Sim C.P w fz ρ Wr a st) (hs : Region.noSelect ops = true) (hi : ops[i]? = some o) (hlf : loadFirst ops listed st i = true)
    (hr : i ∈ Region.ready .any ops listed) (hQ : ∀ c a w, Q (.panic c) a w → False) (h : pureW C ops.toList o st κ = some r)
    (hk : ∀ a' , Good C w fz ρ Wr a.defers κ r a' w → wpAnyF C.P ops Q n (listed.setIfInBounds i true) fz a' w) : wpAnyF C.P ops Q (n + 1) listed fz a w := by
  obtain ⟨oi, t, x, hi', hop, hbox, hall⟩ := loadFirst_spec hlf
  rw [hi] at hi'; cases hi'
  by_cases hx : (∃ e el o', st.leaf x = .eptr e el o') ∧ o.guard = none
  · obtain ⟨⟨e, el, o', hx⟩, hgd⟩ := hx
    exact load_takeE S hs hi hop hgd hx (fun j oj hj hji hun hnw => (hall j oj hj hji hun hnw).1) hr hQ h hk
  · exact load_takeM S hs hi hlf hr hQ h (fun t' x' oi' h1 h2 ⟨h3, h4⟩ => by
      rw [hi] at h1; cases h1
      rw [hop] at h2; cases h2
      exact hx ⟨h3, h4⟩) hk

theorem bothL_all {r : List L} : ∀ {xs : List R}, bothL xs = some r → ∀ x ∈ xs, x = some r
  | [], h, x, hx => by cases hx
  | [a], h, x, hx => by
    rw [List.mem_singleton.1 hx]
    exact h
  | a :: b :: as, h, x, hx => by
    unfold bothL both at h
    split at h
    · rename_i e
      rcases List.mem_cons.1 hx with rfl | hx
      · exact h
      · exact bothL_all (e ▸ h) x hx
    · cases h
theorem both_self (a : R) : both a a = a := by unfold both; simp
theorem drawA_sound {G : Req → R} (hG : EnterOk C G) (hE : ExtOk C) (hN : NoCount C.P) (hs : Region.noSelect ops = true) {κ : St → R} {r : List L} {Q : Exit → Act → World → Prop} (hQ : ∀ c a w, Q (.panic c) a w → False) :
    ∀ (n : Nat) {listed : Array Bool} {w : World} {fz : Fz} {ρ : Rho} {a : Act} {st : St}, Sim C.P w fz ρ Wr a st → Env C w Wr → drawA C G ops n listed st κ = some r →
      (∀ a' w', Good C w fz ρ Wr a.defers κ r a' w' → Q .normal a' w') → wpAnyF C.P ops Q n listed fz a w
  | 0, listed, w, fz, ρ, a, st, S, hw, h, hk => by
    unfold drawA at h
    split at h
    · rename_i hr
      exact ⟨hr, hk _ _ ⟨st, fz, ρ, h, S, .refl _ _ _, .refl ρ, rfl⟩⟩
    · cases h
  | n + 1, listed, w, fz, ρ, a, st, S, hw, h, hk => by
    have step : ∀ (i : Nat) (a' : Act) (w' : World), Good C w fz ρ Wr a.defers (fun st' => drawA C G ops n (listed.setIfInBounds i true) st' κ) r a' w' → Keeps fz w w' ∧ ∃ fz' : Fz, (∀ g o, fz g o → fz' g o) ∧ wpAnyF C.P ops Q n (listed.setIfInBounds i true) fz' a' w' := by
      rintro i a' w' ⟨st', fz', ρ', k1, k2, k3, k4, k5⟩
      refine ⟨k3.keep, fz', k3.ext.1, drawA_sound hG hE hN hs hQ n k2 (wr_mono hw k3) k1 fun a2 w2 hg2 => hk a2 w2 ?_⟩
      rw [k5] at hg2
      exact hg2.trans k3 k4
    have step1 : ∀ (i : Nat) (a' : Act), Good C w fz ρ Wr a.defers (fun st' => drawA C G ops n (listed.setIfInBounds i true) st' κ) r a' w → wpAnyF C.P ops Q n (listed.setIfInBounds i true) fz a' w := fun i a' hg => by
      obtain ⟨_, fz', h1, h2⟩ := step i a' w hg
      exact wpAnyF_sub _ _ _ _ _ _ h1 h2
    unfold drawA at h
    split at h
    · rename_i hr
      exact wpAnyF_done hr (hk _ _ ⟨st, fz, ρ, h, S, .refl _ _ _, .refl ρ, rfl⟩) _
    · rename_i r0 rs hr
      split at h
      · rename_i i hp
        split at h
        case h_2 => cases h
        rename_i o hi
        have hm := List.mem_of_find?_eq_some hp
        have hc := List.find?_some hp
        simp only [hi, Bool.and_eq_true] at hc
        obtain ⟨v, hy, hg⟩ := pureW_sound S h
        have hl := ahead_loads hc.1
        have hy' : Yields C.P ops o v a := hy.imp (fun ⟨h1, h2⟩ => ⟨h1, fun w' => h2 w' (by rw [hl]; intro e; cases e)⟩) id
        refine hoist (S := fun _ => True) (G := fun _ => True) (N := 1) (listed0 := listed) (fz0 := fz) hi (Region.noSelect_spec hs) (fun c a w hq => (hQ _ _ _ hq).elim) (fun _ => Iff.rfl)
          (fun j oj hj hji hun hnw => ⟨Region.free_spec hi hc.2 j oj hj hji hun fun e he hb hon => hnw ?_, fun fz1 a1 w1 K hf hS1 _ hK => wpOp_mono (fun a' w' h' => ⟨⟨trivial, trivial⟩, h'⟩) hK⟩)
          n listed fz a w (fun _ _ h => h) (fun _ h => h) (fun m _ k hm => (waiters_mem hm).2.1) (by rw [hr]; exact hm) hy'.yieldsIf trivial trivial (step1 i _ hg)
        have hlt := (Array.getElem?_eq_some_iff.1 hj).1
        simp only [waiters, List.mem_filter, List.mem_range, Bool.and_eq_true, bne_iff_ne, Bool.not_eq_true', hj]
        refine ⟨hlt, hji, hun, ?_⟩
        rw [Array.any_eq_true']
        exact ⟨e, he, by simp [hb, hon]⟩
      · split at h
        · split at h
          case h_2 => cases h
          rename_i o hi
          refine wpAnyF_all hr (by simp) fun i him => ?_
          have : i = r0 := by simpa using him
          subst this
          exact opW_sound hG hE hN S hw hi h (step i)
        · split at h
          case h_2 =>
            refine wpAnyF_all hr (by simp) fun i him => ?_
            have hall := bothL_all h _ (List.mem_map.2 ⟨i, him, rfl⟩)
            split at hall
            case h_2 => cases hall
            rename_i o hi
            exact opW_sound hG hE hN S hw hi hall (step i)
          rename_i i hf
          split at h
          case h_2 => cases h
          rename_i o hi
          have hm := List.mem_of_find?_eq_some hf
          have hc := List.find?_some hf
          exact load_take S hs hi hc (by rw [hr]; exact hm) hQ h fun a' hg => step1 i a' hg

theorem regionA_sound {G : Req → R} (hG : EnterOk C G) (hE : ExtOk C) (hN : NoCount C.P) (hm : C.P.follows .mixedOrders = true) {draw : Bool} {κ : St → R} {r : List L} {Q : Exit → Act → World → Prop} (hQ : ∀ c a w, Q (.panic c) a w → False)
    (S : Sim C.P w fz ρ Wr a st) (hw : Env C w Wr) (h : regionA C G ops draw st κ = some r) {id : Nat}
    (hk : ∀ a' w', Good C w fz ρ Wr a.defers κ r a' w' → Q .normal a' w') : (Code.region id ops draw).wp C.P Q a w := by
  unfold regionA at h
  split at h
  · intro b k cs
    have := opsA_sound hG hE hN (Q := Q) ops.toList 0 rfl S hw h hk
    obtain ⟨e, a', w', hq, harr⟩ := wp_ops _ a w this b k cs
    refine ⟨e, a', w', hq, .of_steps (.one ?_) harr⟩
    have hrange : List.range' 0 ops.toList.length = List.range ops.size := by rw [List.range_eq_range']; simp
    rw [hrange]
    exact step_region
  · split at h
    case isFalse => cases h
    rename_i hs
    refine wp_region_any hm ?_
    have M : Mv Wr w fz w.drew fz := .drew
    have M0 : Mv (fun _ => False) w fz w.drew fz := .drew
    have S' : Sim C.P w.drew fz ρ Wr a st := ⟨RepDs.mono S.tm fun v l _ hv => hv.mono C.P M.keep M.ext.1 fun b _ v hv => hv, S.hp.moved M0 (fun g o h => S.hp.lt g o h) fun _ _ h => h⟩
    refine wpAny_of_F _ _ fz _ _ ?_
    exact drawA_sound hG hE hN hs hQ ops.size (w := w.drew) S' (wr_mono hw M) h fun a' w' hg => hk a' w' (hg.trans M (.refl ρ))

end
end Go.Ab
namespace Go.Ab
section
variable {C : Cfg} {w w' : World} {fz fz' : Fz} {ρ ρ' : Rho} {Wr : Nat → Prop} {a : Act} {st : St}

def resOf (tmps : Array Value) : ResultVar → Sem Value
  | .tmp t => pure (tmps.getD t undef)
  | .cell a t => do loadVar t (← asAddr (tmps.getD a undef))

theorem getD_undef (S : Sim C.P w fz ρ Wr a st) (x : Tmp) : RepD (Rep C.P w fz ρ) (a.tmps.getD x undef) (st.tm.getD x .undef) := S.ev (.tmp x)

theorem resOne_sound (S : Sim C.P w fz ρ Wr a st) {rv : ResultVar} {d : D} (h : resOne C st rv = some d) : ∃ v, (resOf a.tmps rv).run C.P w = .ok v w ∧ RepD (Rep C.P w fz ρ) v d := by
  unfold resOne at h
  split at h
  · cases h
    exact ⟨_, rfl, getD_undef S _⟩
  · rename_i x t
    split at h
    case h_2 => cases h
    rename_i l hl
    have hx := getD_undef S x
    rw [hl] at hx
    obtain ⟨u, h1, h2⟩ := loadA_sound S h hx
    refine ⟨u, ?_, h2⟩
    have hr := h1 w fun _ _ => rfl
    generalize hv : a.tmps.getD x undef = v at hr
    simp only [resOf, hv]
    cases v <;> try (simp [Instr.loadAt, Instr.sureAddr] at hr; done)
    rename_i p
    cases p with
    | none => simp [Instr.loadAt, Instr.sureAddr] at hr
    | some ad => exact hr

theorem resD_sound (S : Sim C.P w fz ρ Wr a st) : ∀ {rvs : List ResultVar} {ts : List TypeId} {ls : List L}, resD C st rvs ts = some ls →
    ∃ vals us, (rvs.mapM (resOf a.tmps)).run C.P w = .ok vals w ∧ Vals C.P ts vals us ∧ RepLs (Rep C.P w fz ρ) us ls
  | [], [], ls, h => by
    simp only [resD, Option.some.injEq] at h
    subst h
    exact ⟨[], [], rfl, rfl, trivial⟩
  | [], _ :: _, _, h => by simp [resD] at h
  | _ :: _, [], _, h => by simp [resD] at h
  | rv :: rvs, t :: ts, ls, h => by
    simp only [resD] at h
    split at h
    case h_2 => cases h
    rename_i d hd
    split at h
    case h_2 => cases h
    rename_i c cs hc hcs
    split at h
    case isFalse => cases h
    rename_i hcond
    obtain ⟨h1, h2, h3⟩ := hcond
    simp only [Option.some.injEq] at h
    subst h
    obtain ⟨v, r1, r2⟩ := resOne_sound S hd
    obtain ⟨vals, us, q1, q2, q3⟩ := resD_sound S hcs
    have hu : ∃ u1 : List Value, u1.length = c.length ∧ RepLs (Rep C.P w fz ρ) u1 c ∧ v = (if d.isAgg then .agg u1.toArray else u1.headD undef) := by
      unfold resCells at hc
      split at hc
      case h_2 =>
        split at hc
        · cases hc
          exact ⟨[v], rfl, ⟨.any v, trivial⟩, by simp [D.isAgg]⟩
        · cases hc
      rename_i c' hc'
      cases hc
      have hc := hc'
      cases d with
      | lf l =>
        have : c = [l] := by
          cases l <;> simp [D.cells] at hc <;> exact hc.symm
        subst this
        exact ⟨[v], rfl, ⟨r2, trivial⟩, by simp [D.isAgg]⟩
      | agg lls =>
        simp only [D.cells, Option.some.injEq] at hc
        subst hc
        obtain ⟨xs, rfl, hr⟩ := r2
        exact ⟨xs.toList, hr.length, hr, by simp [D.isAgg]⟩
      | tup ds => simp [D.cells] at hc
    obtain ⟨u1, e1, e2, e3⟩ := hu
    refine ⟨v :: vals, u1 ++ us, ?_, ⟨u1, us, rfl, by omega, by omega, by rw [← h2]; exact e3, q2⟩, e2.append q3⟩
    simp only [List.mapM_cons]
    simp [r1, q1]

theorem results_sound (S : Sim C.P w fz ρ Wr a st) {fn : Func} {ts : List TypeId} {ls : List L} (h : resD C st fn.results.toList ts = some ls) :
    ∃ vals us, (results fn a.tmps).run C.P w = .ok (retV vals) w ∧ Vals C.P ts vals us ∧ RepLs (Rep C.P w fz ρ) us ls := by
  obtain ⟨vals, us, h1, h2, h3⟩ := resD_sound S h
  refine ⟨vals, us, ?_, h2, h3⟩
  have e : results fn a.tmps = (do let vs ← fn.results.mapM (resOf a.tmps); pure (if h : vs.size = 1 then vs[0] else .tuple vs)) := by
    unfold results
    congr 1
  rw [e, Array.mapM_eq_mapM_toList]
  simp only [bind_map_left]
  have : ((do let vs ← fn.results.toList.mapM (resOf a.tmps); pure (if h : vs.toArray.size = 1 then vs.toArray[0] else Value.tuple vs.toArray) : Sem Value)).run C.P w = .ok (retV vals) w := by
    rw [Sem.run_bind, h1, Result.andThen_ok]
    match vals with
    | [] => rfl
    | [v] => rfl
    | v :: u :: vs => simp [retV]
  exact this
end
end Go.Ab
namespace Go.Ab
section
variable {C : Cfg} {w w' : World} {fz fz' : Fz} {ρ ρ' ρ0 : Rho} {Wr : Nat → Prop} {a : Act} {st : St}

def RowLive (ρ : Rho) (hp : List B) (g : Nat) : Prop := ∃ r t xs ex u, hp.getD r .dead = .row t xs ex ∧ ρ r = some u ∧ bk u = some g

theorem hide_one (hp : List B) (r : Nat) : killIds [r] hp = hp.set r .dead := rfl
theorem HSim.kill {hp : List B} (H : HSim C.P w fz ρ Wr hp) (r : Nat) : HSim C.P w fz ρ Wr (hp.set r .dead) := by rw [← hide_one]; exact H.hide [r]

theorem rowLive_kill {hp : List B} {r g : Nat} (h : RowLive ρ (hp.set r .dead) g) : RowLive ρ hp g := by
  obtain ⟨r', t, xs, ex, u, h1, h2, h3⟩ := h
  rw [getD_set] at h1
  split at h1
  · cases h1
  · exact ⟨r', t, xs, ex, u, h1, h2, h3⟩
theorem not_rowLive_kill {hp : List B} (H : HSim C.P w fz ρ Wr hp) {r g : Nat} {t : TypeId} {xs : List (List L)} {ex : Bool} {u : Value} (hr : hp.getD r .dead = .row t xs ex) (hu : ρ r = some u) (hg : bk u = some g) : ¬ RowLive ρ (hp.set r .dead) g := by
  rintro ⟨r', t', xs', ex', u', h1, h2, h3⟩
  rw [getD_set] at h1
  split at h1
  · cases h1
  · rename_i hne
    have hrr : r' ≠ r := by
      intro e
      subst e
      have hlt : r' < hp.length := live_lt (by rw [hr]; simp)
      exact hne ⟨rfl, hlt⟩
    exact H.dis r' r u' u g hrr (by rw [h1]; simp) (by rw [hr]; simp) h2 hu (.of h3) (.of hg)
def Hand : B → Prop
  | .box _ _ => True
  | .arr _ _ => True
  | _ => False
theorem box_kill {hp : List B} {r : Nat} (hr : ¬ Hand (hp.getD r .dead)) (b : Nat) {x : B} (hx : Hand x) {y : B} (hy : ¬ Hand y) : (hp.set r y).getD b .dead = x ↔ hp.getD b .dead = x := by
  rw [getD_set]
  split
  · rename_i h
    rw [← h.1]
    constructor
    · intro e; subst e; exact absurd hx hy
    · intro e; rw [e] at hr; exact absurd hx hr
  · rfl

theorem fits_hasK {k : K} {l : L} (h : k.fits l = true) (h1 : ∀ t, k ≠ .sl t) (h2 : k ≠ .oth) : HasK k l := by
  cases k <;> cases l <;> simp [K.fits] at h <;> first
    | exact absurd rfl (h1 _)
    | exact absurd rfl h2
    | (subst h; exact ⟨_, rfl⟩)
    | exact ⟨_, rfl⟩

theorem frz_rowLive {hp : List B} {r : Nat} {t : TypeId} {xs : List (List L)} {ex : Bool} (hr : hp.getD r .dead = .row t xs ex) {g : Nat} : RowLive ρ (hp.set r (.row t xs false)) g → RowLive ρ hp g := by
  rintro ⟨r', t', xs', ex', u', h1, h2, h3⟩
  rw [getD_set] at h1
  split at h1
  · rename_i h
    exact ⟨r, t, xs, ex, u', hr, by rw [h.1]; exact h2, h3⟩
  · exact ⟨r', t', xs', ex', u', h1, h2, h3⟩
theorem ownS_of {hp : List B} (H : HSim C.P w fz ρ Wr hp) {r : Nat} {t : TypeId} {xs : List (List L)} {u : Value} (hr : hp.getD r .dead = .row t xs true) (hu : ρ r = some u) : OwnS C.P w fz t u xs := by
  have hB := H.blk r
  rw [hr] at hB
  obtain ⟨v, us, h1, h2, h3, h4, h5, h6, h7, h8⟩ := hB
  rw [hu] at h1; cases h1
  refine ⟨us, h2, h3.mono fun v l hl hv => ?_, h4, h5, h6, fun g o hg ho => by have := (h7 g o hg ho).1; cases this⟩
  obtain ⟨e, he, hle⟩ := List.mem_flatten.1 hl
  obtain ⟨kk, hk⟩ := HasKs.mem (h4 e he) l hle
  exact hv.of_hasK C.P hk

structure FinOk (C : Cfg) (w : World) (ρ : Rho) (Wr : Nat → Prop) (hp : List B) (fz' : Fz) (hp' : List B) (gs : List Nat) : Prop where
  sim : HSim C.P w fz' ρ Wr hp'
  gone : ∀ g ∈ gs, RowLive ρ hp g ∧ ¬ RowLive ρ hp' g
  still : ∀ g, RowLive ρ hp' g → RowLive ρ hp g
  nd : gs.Nodup
  box : ∀ b x, Hand x → (hp'.getD b .dead = x ↔ hp.getD b .dead = x)
theorem FinOk.refl {hp : List B} (H : HSim C.P w fz ρ Wr hp) : FinOk C w ρ Wr hp fz hp [] := ⟨H, by simp, fun _ h => h, List.nodup_nil, fun _ _ _ => Iff.rfl⟩
theorem FinOk.trans {hp hp1 hp2 : List B} {fz1 fz2 : Fz} {g1 g2 : List Nat} (h : FinOk C w ρ Wr hp fz1 hp1 g1) (k : FinOk C w ρ Wr hp1 fz2 hp2 g2) : FinOk C w ρ Wr hp fz2 hp2 (g1 ++ g2) :=
  ⟨k.sim, fun g hg => by
    rcases List.mem_append.1 hg with x | x
    · exact ⟨(h.gone g x).1, fun y => (h.gone g x).2 (k.still g y)⟩
    · exact ⟨h.still g (k.gone g x).1, (k.gone g x).2⟩, fun g x => h.still g (k.still g x), List.nodup_append.2 ⟨h.nd, k.nd, fun x hx y hy e => (h.gone x hx).2 (e ▸ (k.gone y hy).1)⟩, fun b x hx => (k.box b x hx).trans (h.box b x hx)⟩

theorem FinOk.killed {hp : List B} (H : HSim C.P w fz ρ Wr hp) {r : Nat} {t : TypeId} {xs : List (List L)} {ex : Bool} {u : Value} (hr : hp.getD r .dead = .row t xs ex) (hu : ρ r = some u) : FinOk C w ρ Wr hp fz (hp.set r .dead) (bk u).toList := by
  refine ⟨H.kill r, fun g hg => ?_, fun g h => rowLive_kill h, ?_, fun b x hx => box_kill (by rw [hr]; exact id) b hx id⟩
  · have hg' : bk u = some g := by cases e : bk u <;> simp_all
    exact ⟨⟨r, t, xs, ex, u, hr, hu, hg'⟩, not_rowLive_kill H hr hu hg'⟩
  · cases bk u <;> simp

theorem rep_row_inv {v : Value} {r : Nat} (h : Rep C.P w fz ρ v (.row r)) : ∃ u, ρ r = some u ∧ Like v u := by cases h; exact ⟨_, ‹_›, ‹_›⟩
theorem rep_nils_inv {v : Value} {t : TypeId} (h : Rep C.P w fz ρ v (.nils t)) : v = .slice none 0 0 := by cases h; rfl
theorem rep_nil_lst (t : TypeId) : Rep C.P w fz ρ (.slice none 0 0) (.lst t []) :=
  .lst none 0 0 t [] (fun _ => undef) ⟨0, 0, none⟩ rfl (Nat.le_refl _) (by simp) (by simp) (by simp) (by simp) (by simp)

theorem ownS_nil {t : TypeId} (h : nilOk C.P t = true) : OwnS C.P w fz t (.slice none 0 0) [] := by
  simp only [nilOk, Bool.and_eq_true, decide_eq_true_eq] at h
  exact ⟨[], ⟨by simp, .inl ⟨rfl, rfl⟩⟩, trivial, by simp, h.1, h.2, fun g o hg => by simp [bk] at hg⟩

theorem finD_sound {own : Bool} : ∀ {ks : List K} {ls : List L} {hp hp' : List B} {o : List L} {us : List Value} {fz : Fz}, HSim C.P w fz ρ Wr hp → RepLs (Rep C.P w fz ρ) us ls → finD C.P own ks ls hp = some (o, hp') →
    ∃ fz' gs, FzExt fz fz' Wr ∧ FinOk C w ρ Wr hp fz' hp' gs ∧ (∀ rest, Bk C.P w fz' own ks us (o ++ rest) gs) ∧ o.length = ks.length ∧ (own = true → fz' = fz)
  | [], [], hp, hp', o, us, fz, H, hr, h => by
    simp only [finD, Option.some.injEq, Prod.mk.injEq] at h
    obtain ⟨rfl, rfl⟩ := h
    have hu : us = [] := by cases us <;> simp_all [RepLs]
    subst hu
    exact ⟨fz, [], .refl, .refl H, fun _ => by simp [Bk], rfl, fun _ => rfl⟩
  | [], _ :: _, _, _, _, _, _, _, _, h => by simp [finD] at h
  | _ :: _, [], _, _, _, _, _, _, _, h => by simp [finD] at h
  | k :: ks, l :: ls, hp, hp', o, [], fz, H, hr, h => by simp [RepLs] at hr
  | k :: ks, l :: ls, hp, hp', o, u :: us, fz, H, hr, h => by
    obtain ⟨hu, hus⟩ := hr
    -- a cell that is handed back as it is
    have plain : ∀ {l' : L} {fz1 : Fz} {hp1 : List B}, FzExt fz fz1 Wr → HSim C.P w fz1 ρ Wr hp1 → FinOk C w ρ Wr hp fz1 hp1 [] → Rep C.P w fz1 ρ u l' → HasK k l' → (own = true → (∀ t, k ≠ .sl t) ∧ fz1 = fz) →
        (match finD C.P own ks ls hp1 with | some (o, hp') => some (l' :: o, hp') | none => none) = some (o, hp') →
        ∃ fz' gs, FzExt fz fz' Wr ∧ FinOk C w ρ Wr hp fz' hp' gs ∧ (∀ rest, Bk C.P w fz' own (k :: ks) (u :: us) (o ++ rest) gs) ∧ o.length = (k :: ks).length ∧ (own = true → fz' = fz) := by
      intro l' fz1 hp1 x1 H1 F1 hu1 hk1 hown hm
      split at hm
      case h_2 => cases hm
      rename_i o2 hp2 e2
      simp only [Option.some.injEq, Prod.mk.injEq] at hm
      obtain ⟨rfl, rfl⟩ := hm
      obtain ⟨fz2, gs, x2, F2, b2, n2, q2⟩ := finD_sound H1 (hus.mono fun v l _ hv => hv.mono C.P (Kp.refl _ _) x1.1 fun _ _ _ h => h) e2
      refine ⟨fz2, gs, x1.trans x2, by simpa using F1.trans F2, fun rest => ?_, by simp [n2], fun ho => (q2 ho).trans (hown ho).2⟩
      have hu2 : Rep C.P w fz2 (fun _ => none) u l' := (hu1.mono C.P (Kp.refl _ _) x2.1 fun _ _ _ h => h).of_hasK C.P hk1
      cases k with
      | sl t =>
        cases own with
        | true => exact absurd rfl ((hown rfl).1 t)
        | false => simp only [List.cons_append, Bk, Bool.false_eq_true, if_false, List.headD_cons, List.tail_cons]; exact ⟨hk1, hu2, b2 rest⟩
      | oth => simp [HasK] at hk1
      | int k => simp only [List.cons_append, Bk, List.headD_cons, List.tail_cons]; exact ⟨hk1, hu2, b2 rest⟩
      | bool => simp only [List.cons_append, Bk, List.headD_cons, List.tail_cons]; exact ⟨hk1, hu2, b2 rest⟩
      | str => simp only [List.cons_append, Bk, List.headD_cons, List.tail_cons]; exact ⟨hk1, hu2, b2 rest⟩
      | mp => simp only [List.cons_append, Bk, List.headD_cons, List.tail_cons]; exact ⟨hk1, hu2, b2 rest⟩
    -- one that goes over
    have goes : ∀ {t : TypeId} {xs : List (List L)} {hp1 : List B} {u' : Value}, Like u u' → k = .sl t → own = true → FinOk C w ρ Wr hp fz hp1 (bk u').toList → OwnS C.P w fz t u' xs →
        (match finD C.P own ks ls hp1 with | some (o, hp') => some (.lst t xs :: o, hp') | none => none) = some (o, hp') →
        ∃ fz' gs, FzExt fz fz' Wr ∧ FinOk C w ρ Wr hp fz' hp' gs ∧ (∀ rest, Bk C.P w fz' own (k :: ks) (u :: us) (o ++ rest) gs) ∧ o.length = (k :: ks).length ∧ (own = true → fz' = fz) := by
      intro t xs hp1 u' hlk hk ho F1 hO hm
      subst hk ho
      split at hm
      case h_2 => cases hm
      rename_i o2 hp2 e2
      simp only [Option.some.injEq, Prod.mk.injEq] at hm
      obtain ⟨rfl, rfl⟩ := hm
      obtain ⟨fz2, gs, x2, F2, b2, n2, q2⟩ := finD_sound F1.sim hus e2
      have := q2 rfl
      subst this
      refine ⟨_, (bk u').toList ++ gs, x2, F1.trans F2, fun rest => ?_, by simp [n2], fun _ => rfl⟩
      simp only [List.cons_append, Bk, if_true, List.headD_cons, List.tail_cons]
      exact ⟨xs, gs, u', hlk, rfl, hO, rfl, b2 rest⟩
    cases k with
    | oth =>
      simp only [finD] at h
      split at h
      case h_2 => cases h
      rename_i o2 hp2 e2
      simp only [Option.some.injEq, Prod.mk.injEq] at h
      obtain ⟨rfl, rfl⟩ := h
      obtain ⟨fz2, gs, x2, F2, b2, n2, q2⟩ := finD_sound H hus e2
      exact ⟨fz2, gs, x2, F2, fun rest => by simp only [List.cons_append, Bk, List.tail_cons]; exact b2 rest, by simp [n2], q2⟩
    | int k =>
      simp only [finD] at h
      split at h
      case isFalse => cases h
      rename_i hf
      exact plain .refl H (.refl H) hu (fits_hasK hf (by simp) (by simp)) (fun _ => ⟨by simp, rfl⟩) h
    | bool =>
      simp only [finD] at h
      split at h
      case isFalse => cases h
      rename_i hf
      exact plain .refl H (.refl H) hu (fits_hasK hf (by simp) (by simp)) (fun _ => ⟨by simp, rfl⟩) h
    | mp =>
      simp only [finD] at h
      split at h
      case isFalse => cases h
      rename_i hf
      exact plain .refl H (.refl H) hu (fits_hasK hf (by simp) (by simp)) (fun _ => ⟨by simp, rfl⟩) h
    | str =>
      simp only [finD] at h
      split at h
      case isFalse => cases h
      rename_i hf
      exact plain .refl H (.refl H) hu (fits_hasK hf (by simp) (by simp)) (fun _ => ⟨by simp, rfl⟩) h
    | sl t =>
      simp only [finD] at h
      split at h
      · rename_i r
        split at h
        case h_2 => cases h
        rename_i t' xs ex hb
        split at h
        case isFalse => cases h
        rename_i hc
        obtain ⟨rfl, hex⟩ := hc
        obtain ⟨u', hρ, hlk⟩ := rep_row_inv hu
        cases own with
        | true =>
          have := hex rfl
          subst this
          exact goes hlk rfl rfl (.killed H hb hρ) (ownS_of H hb hρ) (by simp only [if_true] at h; exact h)
        | false =>
          have hfr : frzL hp (.row r) = some (.lst t' xs, hp.set r (.row t' xs false)) := by simp only [frzL, hb]
          obtain ⟨fz1, x1, H1, r1, f1, n1⟩ := frzL_sound H hfr hu
          exact plain x1 H1 ⟨H1, by simp, fun g => frz_rowLive hb, List.nodup_nil, fun b x hx => box_kill (by rw [hb]; exact id) b hx id⟩ r1 ⟨xs, rfl⟩ (fun e => by cases e) (by simp only [Bool.false_eq_true, if_false] at h; exact h)
      · rename_i r
        split at h
        case h_2 => cases h
        rename_i t' e yss hb
        split at h
        case isFalse => cases h
        rename_i hc
        obtain ⟨rfl, rfl⟩ := hc
        have hfr : frzL hp (.mat r) = some (.lst t' (yss.map fun ys => [.lst e ys]), hp.set r .dead) := by simp only [frzL, hb]
        obtain ⟨fz1, x1, H1, r1, f1, n1⟩ := frzL_sound H hfr hu
        exact plain x1 H1 ⟨H1, by simp, fun g h => rowLive_kill h, List.nodup_nil, fun b x hx => box_kill (by rw [hb]; exact id) b hx id⟩ r1 ⟨_, rfl⟩ (fun e => by cases e) h
      · rename_i t0
        have := rep_nils_inv hu
        subst this
        split at h
        case isFalse => cases h
        rename_i hnil
        cases own with
        | true => exact goes (.refl _) rfl rfl (by simpa [bk] using FinOk.refl H) (ownS_nil hnil) h
        | false => exact plain .refl H (.refl H) (rep_nil_lst t) ⟨[], rfl⟩ (fun e => by cases e) h
      · rename_i t' xs
        split at h
        case isFalse => cases h
        rename_i hc
        obtain ⟨rfl, rfl⟩ := hc
        exact plain .refl H (.refl H) hu ⟨xs, rfl⟩ (fun e => by cases e) h
      · cases h
end
end Go.Ab
namespace Go.Ab
section
variable {C : Cfg} {w w' : World} {fz fz' : Fz} {ρ ρ' ρ0 : Rho} {Wr : Nat → Prop} {a : Act} {st : St}

mutual
theorem othEq_eq : ∀ {a b : L}, othEq a b = true → a = b
  | .ptr b o, y, h => by
    cases y <;> simp [othEq] at h
    rw [h.1, h.2]
  | .slf b o, y, h => by
    cases y <;> simp [othEq] at h
    rw [h.1, h.2]
  | .nilp, y, h => by cases y <;> simp [othEq] at h; rfl
  | .nilf, y, h => by cases y <;> simp [othEq] at h; rfl
  | .clo f cs, y, h => by
    cases y <;> simp [othEq] at h
    rw [h.1, othEqs_eq h.2]
  | .int _ _, y, h => by simp [othEq] at h
  | .bool _, y, h => by simp [othEq] at h
  | .str _, y, h => by simp [othEq] at h
  | .lst _ _, y, h => by simp [othEq] at h
  | .row _, y, h => by simp [othEq] at h
  | .nils _, y, h => by simp [othEq] at h
  | .aptr _ _ _ _, y, h => by simp [othEq] at h
  | .eptr _ _ _, y, h => by simp [othEq] at h
  | .rptr _ _ _ _, y, h => by simp [othEq] at h
  | .ars _, y, h => by simp [othEq] at h
  | .elp _ _ _ _, y, h => by simp [othEq] at h
  | .mat _, y, h => by simp [othEq] at h
  | .mptr _ _, y, h => by simp [othEq] at h
  | .mrow _ _, y, h => by simp [othEq] at h
  | .mel _ _ _ _ _, y, h => by simp [othEq] at h
  | .any, y, h => by simp [othEq] at h
theorem othEqs_eq : ∀ {a b : List L}, othEqs a b = true → a = b
  | [], [], _ => rfl
  | [], _ :: _, h => by simp [othEqs] at h
  | _ :: _, [], h => by simp [othEqs] at h
  | a :: as, b :: bs, h => by
    simp only [othEqs, Bool.and_eq_true] at h
    rw [othEq_eq h.1, othEqs_eq h.2]
end
mutual
theorem othEq_self : ∀ {a b : L}, othEq a b = true → othEq a a = true := fun h => by
  have := othEq_eq h
  subst this
  exact h
end
mutual
theorem oth_refs : ∀ {l : L} {v : Value}, othEq l l = true → Rep C.P w fz ρ v l → ∀ i ∈ refsL l, ∃ p, ρ i = some (.pointer p)
  | .ptr b o, v, _, hr, i, hi => by
    have hi' : i = b := by simpa [refsL] using hi
    subst hi'
    cases hr with
    | ptr _ _ ad h => exact ⟨_, h⟩
  | .slf b o, v, _, hr, i, hi => by
    have hi' : i = b := by simpa [refsL] using hi
    subst hi'
    cases hr with
    | slf _ _ ad _ h _ => exact ⟨_, h⟩
  | .nilp, v, _, _, i, hi => by simp [refsL] at hi
  | .nilf, v, _, _, i, hi => by simp [refsL] at hi
  | .clo f cs, v, h, hr, i, hi => by
    simp only [othEq, Bool.and_eq_true] at h
    cases hr with
    | clo _ vs _ h1 h2 => exact oth_refss h.2 (fun j l hl => ⟨_, h2 j l hl⟩) i (by simpa [refsL] using hi)
  | .int _ _, v, h, _, _, _ => by simp [othEq] at h
  | .bool _, v, h, _, _, _ => by simp [othEq] at h
  | .str _, v, h, _, _, _ => by simp [othEq] at h
  | .lst _ _, v, h, _, _, _ => by simp [othEq] at h
  | .row _, v, h, _, _, _ => by simp [othEq] at h
  | .nils _, v, h, _, _, _ => by simp [othEq] at h
  | .aptr _ _ _ _, v, h, _, _, _ => by simp [othEq] at h
  | .eptr _ _ _, v, h, _, _, _ => by simp [othEq] at h
  | .rptr _ _ _ _, v, h, _, _, _ => by simp [othEq] at h
  | .ars _, v, h, _, _, _ => by simp [othEq] at h
  | .elp _ _ _ _, v, h, _, _, _ => by simp [othEq] at h
  | .mat _, v, h, _, _, _ => by simp [othEq] at h
  | .mptr _ _, v, h, _, _, _ => by simp [othEq] at h
  | .mrow _ _, v, h, _, _, _ => by simp [othEq] at h
  | .mel _ _ _ _ _, v, h, _, _, _ => by simp [othEq] at h
  | .any, v, h, _, _, _ => by simp [othEq] at h
theorem oth_refss : ∀ {ls : List L}, othEqs ls ls = true → (∀ (j : Nat) l, ls[j]? = some l → ∃ v, Rep C.P w fz ρ v l) → ∀ i ∈ refsLs ls, ∃ p, ρ i = some (.pointer p)
  | [], _, _, i, hi => by simp [refsLs] at hi
  | l :: ls, h, hr, i, hi => by
    simp only [othEqs, Bool.and_eq_true] at h
    simp only [refsLs, List.mem_append] at hi
    rcases hi with hi | hi
    · obtain ⟨v, hv⟩ := hr 0 l rfl
      exact oth_refs h.1 hv i hi
    · exact oth_refss h.2 (fun j l hl => hr (j + 1) l (by simpa using hl)) i hi
end

def OldOk (ρ0 ρ : Rho) (old : List L) : Prop := ∀ l ∈ old, othEq l l = true → ∀ i ∈ refsL l, ∃ p, ρ0 i = some (.pointer p) ∧ ρ i = some (.pointer p)
theorem OldOk.tail {old : List L} (h : OldOk ρ0 ρ old) : OldOk ρ0 ρ old.tail := fun l hl => h l (List.mem_of_mem_tail hl)

theorem finBox_sound : ∀ {ks : List K} {old cs : List L} {hp hp' : List B} {o : List L} {us : List Value}, HSim C.P w fz ρ Wr hp → RepLs (Rep C.P w fz ρ) us cs → TyB ks cs → OldOk ρ0 ρ old → finBox C.P ks old cs hp = some (o, hp') →
    ∃ gs, FinOk C w ρ Wr hp fz hp' gs ∧ (∀ rest, BkBox C.P w fz ρ0 ks old us (o ++ rest) gs) ∧ o.length = ks.length
  | [], old, [], hp, hp', o, us, H, hr, ht, hold, h => by
    simp only [finBox, Option.some.injEq, Prod.mk.injEq] at h
    obtain ⟨rfl, rfl⟩ := h
    have hu : us = [] := by cases us <;> simp_all [RepLs]
    subst hu
    exact ⟨[], .refl H, fun _ => by simp [BkBox], rfl⟩
  | [], _, _ :: _, _, _, _, _, _, _, _, _, h => by simp [finBox] at h
  | k :: ks, _, [], _, _, _, _, _, _, ht, _, h => by simp [TyB] at ht
  | k :: ks, old, l :: ls, hp, hp', o, [], H, hr, ht, hold, h => by simp [RepLs] at hr
  | k :: ks, old, l :: ls, hp, hp', o, u :: us, H, hr, ht, hold, h => by
    obtain ⟨hu, hus⟩ := hr
    obtain ⟨htk, hts⟩ := ht
    have step : ∀ {l' : L} {hp1 : List B} {g1 : List Nat}, FinOk C w ρ Wr hp fz hp1 g1 → (∀ rest gs, BkBox C.P w fz ρ0 ks old.tail us rest gs → BkBox C.P w fz ρ0 (k :: ks) old (u :: us) (l' :: rest) (g1 ++ gs)) →
        (match finBox C.P ks old.tail ls hp1 with | some (o, hp') => some (l' :: o, hp') | none => none) = some (o, hp') →
        ∃ gs, FinOk C w ρ Wr hp fz hp' gs ∧ (∀ rest, BkBox C.P w fz ρ0 (k :: ks) old (u :: us) (o ++ rest) gs) ∧ o.length = (k :: ks).length := by
      intro l' hp1 g1 F1 hb hm
      split at hm
      case h_2 => cases hm
      rename_i o2 hp2 e2
      simp only [Option.some.injEq, Prod.mk.injEq] at hm
      obtain ⟨rfl, rfl⟩ := hm
      obtain ⟨gs, F2, b2, n2⟩ := finBox_sound F1.sim hus hts hold.tail e2
      exact ⟨g1 ++ gs, F1.trans F2, fun rest => hb _ _ (b2 rest), by simp [n2]⟩
    cases k with
    | int k =>
      simp only [finBox] at h
      exact step (.refl H) (fun rest gs hb => by simp only [BkBox, List.nil_append, List.headD_cons, List.tail_cons]; exact ⟨htk, hu.of_hasK C.P (k := .int k) htk, hb⟩) h
    | bool =>
      simp only [finBox] at h
      exact step (.refl H) (fun rest gs hb => by simp only [BkBox, List.nil_append, List.headD_cons, List.tail_cons]; exact ⟨htk, hu.of_hasK C.P (k := .bool) htk, hb⟩) h
    | mp =>
      simp only [finBox] at h
      exact step (.refl H) (fun rest gs hb => by simp only [BkBox, List.nil_append, List.headD_cons, List.tail_cons]; exact ⟨htk, hu.of_hasK C.P (k := .mp) htk, hb⟩) h
    | str =>
      simp only [finBox] at h
      exact step (.refl H) (fun rest gs hb => by simp only [BkBox, List.nil_append, List.headD_cons, List.tail_cons]; exact ⟨htk, hu.of_hasK C.P (k := .str) htk, hb⟩) h
    | oth =>
      simp only [finBox] at h
      split at h
      case isFalse => cases h
      rename_i he
      refine step (.refl H) (fun rest gs hb => ?_) h
      simp only [BkBox, List.nil_append, List.tail_cons]
      refine ⟨?_, hb⟩
      have e := othEq_eq he
      rw [e]
      refine hu.mono C.P (Kp.refl _ _) (fun _ _ h => h) fun b hb v hv => ?_
      cases old with
      | nil => simp [othEq] at he
      | cons x xs =>
        simp only [List.headD_cons] at he e
        subst e
        obtain ⟨p, q1, q2⟩ := hold _ List.mem_cons_self he b hb
        rw [q2] at hv; cases hv
        exact q1
    | sl t =>
      simp only [finBox] at h
      split at h
      · rename_i hi
        split at h
        case h_2 => cases h
        rename_i t' xs
        split at h
        case isFalse => cases h
        rename_i hc
        subst hc
        refine step (.refl H) (fun rest gs hb' => ?_) h
        simp only [BkBox, List.nil_append, List.headD_cons, List.tail_cons, if_pos hi]
        exact ⟨⟨xs, rfl⟩, hu.of_hasK C.P (k := .sl t') ⟨xs, rfl⟩, hb'⟩
      rename_i hi
      have hi' : ¬ (old.headD .any).isL = true := by rw [hi]; simp
      split at h
      · rename_i r
        split at h
        case h_2 => cases h
        rename_i t' xs hb
        split at h
        case isFalse => cases h
        rename_i hc
        subst hc
        obtain ⟨u', hρ, hlk⟩ := rep_row_inv hu
        exact step (.killed H hb hρ) (fun rest gs hb' => by simp only [BkBox, List.headD_cons, List.tail_cons, if_neg hi', show ¬ ((L.lst t' xs).isL = false) from by simp [L.isL]]; exact ⟨xs, gs, u', hlk, rfl, ownS_of H hb hρ, rfl, hb'⟩) h
      · rename_i t0
        have := rep_nils_inv hu
        subst this
        split at h
        case isFalse => cases h
        rename_i hnil
        exact step (.refl H) (fun rest gs hb' => by simp only [BkBox, List.headD_cons, List.tail_cons, if_neg hi', show ¬ ((L.lst t []).isL = false) from by simp [L.isL]]; exact ⟨[], gs, _, .refl _, rfl, ownS_nil hnil, by simp [bk], hb'⟩) h
      · cases h

structure SkInv (ρ0 ρ : Rho) (b : Nat) (sk : Skel) : Prop where
  box : ∀ (j : Nat) ks old, sk[j]? = some (.box ks old) → (∃ g, ρ0 (b + j) = some (.pointer (some ⟨g, 0, none⟩)) ∧ ρ (b + j) = some (.pointer (some ⟨g, 0, none⟩))) ∧ OldOk ρ0 ρ old
  arr : ∀ (j : Nat) t, sk[j]? = some (.arr t) → ∃ u, ρ0 (b + j) = some (pinV u) ∧ ρ (b + j) = some (pinV u)
theorem SkInv.tail {b : Nat} {x : Sk} {sk : Skel} (h : SkInv ρ0 ρ b (x :: sk)) : SkInv ρ0 ρ (b + 1) sk := by
  refine ⟨fun j ks old hj => ?_, fun j t hj => ?_⟩
  · have := h.box (j + 1) ks old (by simpa using hj)
    have e : b + (j + 1) = b + 1 + j := by omega
    rwa [e] at this
  · have := h.arr (j + 1) t (by simpa using hj)
    have e : b + (j + 1) = b + 1 + j := by omega
    rwa [e] at this

theorem finBoxes_sound : ∀ {sk : Skel} {b : Nat} {hp : List B} {o : List L}, HSim C.P w fz ρ Wr hp → SkInv ρ0 ρ b sk → finBoxes C.P b sk hp = some o →
    ∃ gs bg hp', FinOk C w ρ Wr hp fz hp' gs ∧ BxS C.P w fz ρ0 b sk o gs bg ∧ bg.Nodup ∧ ∀ g ∈ bg, ∃ i x u, b ≤ i ∧ Hand x ∧ hp.getD i .dead = x ∧ ρ i = some u ∧ Bl u g
  | [], b, hp, o, H, hs, h => ⟨[], [], hp, .refl H, ⟨rfl, rfl⟩, List.nodup_nil, by simp⟩
  | .no :: sk, b, hp, o, H, hs, h => by
    simp only [finBoxes] at h
    obtain ⟨gs, bg, hp', h1, h2, h3, h4⟩ := finBoxes_sound H hs.tail h
    exact ⟨gs, bg, hp', h1, h2, h3, fun g hg => by
      obtain ⟨i, x, u, a, b, c⟩ := h4 g hg
      exact ⟨i, x, u, by omega, b, c⟩⟩
  | .arr t :: sk, b, hp, o, H, hs, h => by
    simp only [finBoxes] at h
    split at h
    case h_2 => cases h
    rename_i t' xs hb
    split at h
    case isFalse => cases h
    rename_i ht
    subst ht
    split at h
    case h_2 => cases h
    rename_i o2 e2
    simp only [Option.some.injEq] at h
    subst h
    obtain ⟨u, q1, q2⟩ := hs.arr 0 t' rfl
    simp only [Nat.add_zero] at q1 q2
    have hB := H.blk b
    rw [hb] at hB
    obtain ⟨v, us, k1, k2, k3, k4, k5, k6, k7⟩ := hB
    rw [q2] at k1
    obtain rfl := pinV_inj (Option.some.inj k1)
    obtain ⟨g2, bg, hp2, F2, b2, n2, l2⟩ := finBoxes_sound H hs.tail e2
    have hO : OwnS C.P w fz t' u xs := ⟨us, k2, k3.mono fun v l hl hv => by
      obtain ⟨e, he, hle⟩ := List.mem_flatten.1 hl
      obtain ⟨kk, hk⟩ := HasKs.mem (k4 e he) l hle
      exact hv.of_hasK C.P hk, k4, k5, k6, k7⟩
    refine ⟨g2, (bk u).toList ++ bg, hp2, F2, ⟨u, xs, bg, q1, rfl, hO, rfl, b2⟩, ?_, ?_⟩
    · refine List.nodup_append.2 ⟨by cases bk u <;> simp, n2, fun x hx y hy e => ?_⟩
      subst e
      obtain ⟨i, B, u', hi, hH, hb', hρ, hbl⟩ := l2 x hy
      have hx' : bk u = some x := by simpa using hx
      exact H.dis i b _ _ x (by omega) (by rw [hb']; rintro rfl; exact hH) (by rw [hb]; simp) hρ q2 hbl (bl_pinV.2 hx')
    · intro x hx
      rcases List.mem_append.1 hx with hx | hx
      · exact ⟨b, .arr t' xs, _, Nat.le_refl _, trivial, hb, q2, bl_pinV.2 (by simpa using hx)⟩
      · obtain ⟨i, B, u', hi, r⟩ := l2 x hx
        exact ⟨i, B, u', by omega, r⟩
  | .box ks0 old :: sk, b, hp, o, H, hs, h => by
    simp only [finBoxes] at h
    split at h
    case h_2 => cases h
    rename_i ks cs hb
    split at h
    case isFalse => cases h
    rename_i hk
    subst hk
    split at h
    case h_2 => cases h
    rename_i o1 hp1 e1
    split at h
    case h_2 => cases h
    rename_i o2 e2
    simp only [Option.some.injEq] at h
    subst h
    obtain ⟨⟨g, q1, q2⟩, hold⟩ := hs.box 0 ks old rfl
    simp only [Nat.add_zero] at q1 q2
    have hB := H.blk b
    rw [hb] at hB
    obtain ⟨g', us, t, k1, k2, k3, k4, k5⟩ := hB
    rw [q2] at k1; cases k1
    obtain ⟨g1, F1, b1, n1⟩ := finBox_sound (ρ0 := ρ0) H k3 k4 hold e1
    obtain ⟨g2, bg, hp2, F2, b2, n2, l2⟩ := finBoxes_sound F1.sim hs.tail e2
    refine ⟨g1 ++ g2, g :: bg, hp2, F1.trans F2, ⟨g, us, t, g1, g2, bg, q1, k2, k5, b1 o2, rfl, rfl, ?_⟩, ?_, ?_⟩
    · have : (o1 ++ o2).drop ks.length = o2 := by rw [← n1]; simp
      rw [this]; exact b2
    · refine List.nodup_cons.2 ⟨fun hm => ?_, n2⟩
      obtain ⟨i, x, u', hi, hH, hb', hρ, hbl⟩ := l2 g hm
      have hb'' := (F1.box i x hH).1 hb'
      exact H.dis i b _ _ g (by omega) (by rw [hb'']; rintro rfl; exact hH) (by rw [hb]; simp) hρ q2 hbl (.of rfl)
    · intro x hx
      rcases List.mem_cons.1 hx with rfl | hx
      · exact ⟨b, .box ks cs, _, Nat.le_refl _, trivial, hb, q2, .of rfl⟩
      · obtain ⟨i, y, u', hi, hH, hb', hρ⟩ := l2 x hx
        exact ⟨i, y, u', by omega, hH, (F1.box i y hH).1 hb', hρ⟩
end
end Go.Ab
namespace Go.Ab
section
variable {C : Cfg} {w w' : World} {fz fz' : Fz} {ρ ρ' ρ0 : Rho} {Wr : Nat → Prop} {a : Act} {st : St}

theorem liveTm_sound {live : List Nat} : ∀ {vs : List Value} {ds : List D} (i : Nat), RepDs (Rep C.P w fz ρ) vs ds → RepDs (Rep C.P w fz ρ) vs (liveTm live i ds)
  | [], [], _, _ => trivial
  | v :: vs, d :: ds, i, h => by
    simp only [RepDs] at h
    simp only [liveTm, RepDs]
    refine ⟨?_, liveTm_sound (i + 1) h.2⟩
    split
    · exact h.1
    · exact repD_any v
  | [], _ :: _, _, h => by simp [RepDs] at h
  | _ :: _, [], _, h => by simp [RepDs] at h

structure Up (C : Cfg) (w : World) (fz : Fz) (Wr : Nat → Prop) (ρ : Rho) (hp : List B) (ρ' : Rho) (hp' : List B) : Prop where
  sim : HSim C.P w fz ρ' Wr hp'
  le : ∀ b v, ρ b = some v → ρ' b = some v
  len : hp.length ≤ hp'.length
  old : ∀ b, b < hp.length → hp'.getD b .dead = hp.getD b .dead
theorem Up.refl {hp : List B} (H : HSim C.P w fz ρ Wr hp) : Up C w fz Wr ρ hp ρ hp := ⟨H, fun _ _ h => h, Nat.le_refl _, fun _ _ => rfl⟩
theorem Up.trans {hp hp1 hp2 : List B} {ρ1 ρ2 : Rho} (h : Up C w fz Wr ρ hp ρ1 hp1) (k : Up C w fz Wr ρ1 hp1 ρ2 hp2) : Up C w fz Wr ρ hp ρ2 hp2 :=
  ⟨k.sim, fun b v x => k.le b v (h.le b v x), Nat.le_trans h.len k.len, fun b hb => (k.old b (Nat.lt_of_lt_of_le hb h.len)).trans (h.old b hb)⟩

theorem upL_sound {hp : List B} (H : HSim C.P w fz ρ Wr hp) {v : Value} {l : L} (h : Rep C.P w fz ρ v l) : ∃ ρ', Up C w fz Wr ρ hp ρ' (upL C.P hp l).2 ∧ Rep C.P w fz ρ' v (upL C.P hp l).1 := by
  unfold upL
  split
  · rename_i t
    split
    · rename_i hn
      have := rep_nils_inv h
      subst this
      simp only [nilOk, Bool.and_eq_true, decide_eq_true_eq] at hn
      have A := H.addSame (v := .slice none 0 0) (B := .row t [] true) rfl (fun g hg => by have := hg.slice; simp [bk] at this)
        ⟨.slice none 0 0, [], by simp, World.ownsRow_nil w 0 t _, trivial, by simp, hn.1, hn.2, fun g o hg => by simp [bk] at hg, fun e => by cases e⟩
      refine ⟨_, ⟨A.1, fun b u hu => ?_, by simp, fun b hb => by simp [List.getD, List.getElem?_append_left hb]⟩, .row _ _ _ (by simp) (.refl _)⟩
      have : b ≠ hp.length := fun e => by rw [H.out b (by omega)] at hu; cases hu
      simp [this, hu]
    · exact ⟨ρ, .refl H, h⟩
  · exact ⟨ρ, .refl H, h⟩

theorem upLs_sound : ∀ {ls : List L} {hp : List B} {vs : List Value} {ρ : Rho}, HSim C.P w fz ρ Wr hp → RepLs (Rep C.P w fz ρ) vs ls → ∃ ρ', Up C w fz Wr ρ hp ρ' (upLs C.P hp ls).2 ∧ RepLs (Rep C.P w fz ρ') vs (upLs C.P hp ls).1
  | [], hp, vs, ρ, H, h => ⟨ρ, .refl H, h⟩
  | l :: ls, hp, [], ρ, H, h => by simp [RepLs] at h
  | l :: ls, hp, v :: vs, ρ, H, h => by
    obtain ⟨ρ1, U1, r1⟩ := upL_sound H h.1
    obtain ⟨ρ2, U2, r2⟩ := upLs_sound U1.sim (h.2.mono fun v l _ hv => rep_le hv U1.le)
    exact ⟨ρ2, U1.trans U2, rep_le r1 U2.le, r2⟩

theorem upD_sound {hp : List B} (H : HSim C.P w fz ρ Wr hp) {v : Value} {d : D} (h : RepD (Rep C.P w fz ρ) v d) : ∃ ρ', Up C w fz Wr ρ hp ρ' (upD C.P hp d).2 ∧ RepD (Rep C.P w fz ρ') v (upD C.P hp d).1 := by
  cases d with
  | lf l => exact upL_sound H h
  | agg ls =>
    obtain ⟨cs, e, hr⟩ := h
    obtain ⟨ρ', U, r⟩ := upLs_sound H hr
    exact ⟨ρ', U, cs, e, r⟩
  | tup ds => exact ⟨ρ, .refl H, h⟩

theorem repDs_le {vs : List Value} {ds : List D} (h : RepDs (Rep C.P w fz ρ) vs ds) (hle : ∀ b v, ρ b = some v → ρ' b = some v) : RepDs (Rep C.P w fz ρ') vs ds := RepDs.mono h fun _ _ _ hv => rep_le hv hle

theorem upDs_sound : ∀ {ds : List D} {hp : List B} {vs : List Value} {ρ : Rho}, HSim C.P w fz ρ Wr hp → RepDs (Rep C.P w fz ρ) vs ds → ∃ ρ', Up C w fz Wr ρ hp ρ' (upDs C.P hp ds).2 ∧ RepDs (Rep C.P w fz ρ') vs (upDs C.P hp ds).1
  | [], hp, vs, ρ, H, h => ⟨ρ, .refl H, h⟩
  | l :: ls, hp, [], ρ, H, h => by simp [RepDs] at h
  | l :: ls, hp, v :: vs, ρ, H, h => by
    simp only [RepDs] at h
    obtain ⟨ρ1, U1, r1⟩ := upD_sound H h.1
    obtain ⟨ρ2, U2, r2⟩ := upDs_sound U1.sim (repDs_le h.2 U1.le)
    exact ⟨ρ2, U1.trans U2, RepD.mono r1 fun v l _ hv => rep_le hv U2.le, r2⟩

theorem tyB_up : ∀ {ks : List K} {ls : List L} {hp : List B}, TyB ks ls → TyB ks (upLs C.P hp ls).1
  | [], [], _, _ => trivial
  | k :: ks, l :: ls, hp, h => by
    refine ⟨?_, tyB_up h.2⟩
    have := h.1
    cases k <;> simp only [TyK] at this ⊢ <;> (obtain ⟨x, rfl⟩ := this; exact ⟨x, rfl⟩)
  | [], _ :: _, _, h => by simp [TyB] at h
  | _ :: _, [], _, h => by simp [TyB] at h

theorem HSim.retell {hp : List B} (H : HSim C.P w fz ρ Wr hp) {b : Nat} {ks : List K} {cs cs' : List L} (hb : hp.getD b .dead = .box ks cs) (hB : BS C.P w fz ρ b (.box ks cs')) : HSim C.P w fz ρ Wr (hp.set b (.box ks cs')) := by
  have hlt : b < hp.length := _root_.Go.Ab.live_lt (by rw [hb]; simp)
  have hl : ∀ c, (hp.set b (.box ks cs')).getD c .dead ≠ .dead → hp.getD c .dead ≠ .dead := by
    intro c h
    rw [getD_set] at h
    split at h
    · rename_i e; rw [← e.1, hb]; simp
    · exact h
  refine ⟨H.one, fun c h => H.out c (by simpa using h), fun c => ?_, fun c d v u g hne h1 h2 => H.dis c d v u g hne (hl c h1) (hl d h2), fun c u g h1 => H.wr c u g (hl c h1), H.lt⟩
  rw [getD_set]
  split
  · rename_i e; rw [← e.1]; exact hB
  · exact H.blk c

theorem upBs_sound : ∀ {bs : List Nat} {hp : List B} {ρ : Rho}, HSim C.P w fz ρ Wr hp → ∃ ρ', HSim C.P w fz ρ' Wr (upBs C.P hp bs) ∧ ∀ b v, ρ b = some v → ρ' b = some v
  | [], hp, ρ, H => ⟨ρ, H, fun _ _ h => h⟩
  | b :: bs, hp, ρ, H => by
    simp only [upBs]
    split
    · rename_i ks cs hb
      have hB := H.blk b
      rw [hb] at hB
      obtain ⟨g, us, t, k1, k2, k3, k4, k5⟩ := hB
      obtain ⟨ρ1, U, r1⟩ := upLs_sound H k3
      have hlt : b < hp.length := _root_.Go.Ab.live_lt (by rw [hb]; simp)
      have H1 := U.sim.retell (b := b) (ks := ks) (cs := cs) (cs' := (upLs C.P hp cs).1) ((U.old b hlt).trans hb) ⟨g, us, t, U.le _ _ k1, k2, r1, tyB_up k4, k5⟩
      obtain ⟨ρ2, H2, l2⟩ := upBs_sound (bs := bs) H1
      exact ⟨ρ2, H2, fun b v h => l2 b v (U.le b v h)⟩
    · exact upBs_sound H

theorem HSim.wrMono {hp : List B} {Wr' : Nat → Prop} (H : HSim C.P w fz ρ Wr hp) (h : ∀ g, Wr g → Wr' g) : HSim C.P w fz ρ Wr' hp := ⟨H.one, H.out, H.blk, H.dis, fun b v g h1 h2 h3 => h g (H.wr b v g h1 h2 h3), H.lt⟩

theorem canonSt_sound {n : Nat} {live : List Nat} {st' : St} (S : Sim C.P w fz ρ Wr a st) (h : canonSt C n live st = some st') : ∃ ρ', Sim C.P w fz ρ' Wr a st' ∧ ∀ b v, b < n → ρ b = some v → ρ' b = some v := by
  unfold canonSt at h
  obtain ⟨ρ1, U1, r1⟩ := upDs_sound S.hp (liveTm_sound (live := live) 0 S.tm)
  dsimp only at h
  generalize upDs C.P st.hp (liveTm live 0 st.tm) = up at h U1 r1
  obtain ⟨ds, hp1⟩ := up
  dsimp only at h U1 r1
  obtain ⟨ρ2, H2, l2⟩ := upBs_sound (bs := reachN hp1 100 (List.range n ++ refsDs ds) []) U1.sim
  generalize upBs C.P hp1 (reachN hp1 100 (List.range n ++ refsDs ds) []) = hp2 at h H2
  split at h
  case isFalse => cases h
  rename_i hck
  simp only [Option.some.injEq] at h
  subst h
  simp only [Bool.and_eq_true, List.all_eq_true, List.contains_iff_mem] at hck
  obtain ⟨hnb, hck1, hck2⟩ := hck
  generalize hids : List.range n ++ (reachN hp2 100 (List.range n ++ refsDs ds) []).filter (fun i => decide (n ≤ i)) = ids at *
  have hn := nodupB_spec hnb
  have hcl : ∀ i ∈ ids, ∀ b ∈ refsB (hp2.getD i .dead), b ∈ ids := fun i hi b hb => hck2 _ (List.mem_map.2 ⟨i, hi, rfl⟩) b hb
  have HC := H2.taken (C := C) hn hcl
  refine ⟨rhoC ids ρ2, ⟨repDs_ren (repDs_le r1 l2) hck1, HC.wrMono ?_⟩, fun b v hb hv => ?_⟩
  · rintro g ⟨i, hi, u, hd, hu, hg⟩
    exact H2.wr i u g hd hu hg
  · have : ids[b]? = some b := by
      rw [← hids, List.getElem?_append_left (by simpa using hb)]
      simp [hb]
    simp only [rhoC, this, Option.bind_some]
    exact l2 b v (U1.le b v hv)
end
end Go.Ab
namespace Go.Ab
section
variable {C : Cfg} {w w' : World} {fz fz' : Fz} {ρ ρ' ρ0 : Rho} {a : Act} {st : St}

def Goes (P : Program) (b : Frame) (a : Act) (todo : List Item) (w : World) (R : Value → World → Prop) : Prop :=
  ∀ cs, ∃ v w' fr, R v w' ∧ Steps P (lone (b.at a todo) cs w) (lone fr cs w') ∧ fr.fn = b.fn ∧ fr.leaving P w' (.returned v)
theorem Goes.steps {P : Program} {b : Frame} {a a' : Act} {t t' : List Item} {w w' : World} {R : Value → World → Prop} (h : ∀ cs, Steps P (lone (b.at a t) cs w) (lone (b.at a' t') cs w')) (k : Goes P b a' t' w' R) : Goes P b a t w R :=
  fun cs => let ⟨v, w2, fr, r, s, rest⟩ := k cs; ⟨v, w2, fr, r, (h cs).trans s, rest⟩
theorem Goes.step {P : Program} {b : Frame} {a a' : Act} {t t' : List Item} {w w' : World} {R : Value → World → Prop} (h : ∀ cs, step P (lone (b.at a t) cs w) = .next (lone (b.at a' t') cs w')) (k : Goes P b a' t' w' R) : Goes P b a t w R :=
  .steps (fun cs => .one (h cs)) k

def Wr0 (w0 : World) (S : Nat → Prop) : Nat → Prop := fun k => S k ∨ w0.heap.size ≤ k
def Here (C : Cfg) (w0 : World) (fz0 : Fz) (ρ0 : Rho) (S : Nat → Prop) (sk : Skel) (st : St) (a : Act) (w : World) : Prop :=
  ∃ fz ρ, Sim C.P w fz ρ (Wr0 w0 S) a st ∧ Mv (Wr0 w0 S) w0 fz0 w fz ∧ SkInv ρ0 ρ 0 sk ∧ (∀ i, sk.length ≤ i → ρ0 i = none) ∧ a.defers = [] ∧ Tabs C w0 S
def Ends (C : Cfg) (f : FuncId) (w0 : World) (fz0 : Fz) (ρ0 : Rho) (S : Nat → Prop) (sk : Skel) (r : List L) (v : Value) (w' : World) : Prop := ∃ fz', EndOk C f w0 fz0 ρ0 S sk r v w' fz'
def StateOk (C : Cfg) (f : FuncId) (sk : Skel) (todo : List Item) (st : St) (r : List L) : Prop :=
  ∀ (w0 : World) (fz0 : Fz) (ρ0 : Rho) (S : Nat → Prop) (a : Act) (w : World) (b : Frame), Here C w0 fz0 ρ0 S sk st a w → b.fn = f → b.kind = .normal → Goes C.P b a todo w (Ends C f w0 fz0 ρ0 S sk r)
def ReqOk (C : Cfg) (G : Req → R) : Prop := EnterOk C G ∧ ∀ f sk todo st r, G (.point f sk todo st) = some r → StateOk C f sk todo st r

theorem SkInv.grow {sk : Skel} {b : Nat} (h : SkInv ρ0 ρ b sk) (hl : RhoLe ρ ρ') : SkInv ρ0 ρ' b sk := by
  refine ⟨fun j ks old hj => ?_, fun j t hj => ?_⟩
  · obtain ⟨⟨g, h1, h2⟩, h3⟩ := h.box j ks old hj
    exact ⟨⟨g, h1, hl _ _ (.inl ⟨_, rfl⟩) h2⟩, fun l hl' he i hi => by
      obtain ⟨p, k1, k2⟩ := h3 l hl' he i hi
      exact ⟨p, k1, hl _ _ (.inl ⟨_, rfl⟩) k2⟩⟩
  · obtain ⟨u, h1, h2⟩ := h.arr j t hj
    exact ⟨u, h1, hl _ _ (.inr ⟨u, rfl⟩) h2⟩

theorem fin_sound {f : FuncId} {sk : Skel} {r : List L} {S : Nat → Prop} {w0 : World} {fz0 : Fz} (h : fin C f sk st = some r) (H : Here C w0 fz0 ρ0 S sk st a w) :
    ∃ fn v, C.P.funcs[f]? = some fn ∧ (results fn a.tmps).run C.P w = .ok v w ∧ Ends C f w0 fz0 ρ0 S sk r v w := by
  obtain ⟨fz, ρ, Sm, M, K, hout, hdf, hTb⟩ := H
  unfold fin at h
  split at h
  · cases h
  rename_i fn hfn
  split at h
  · cases h
  rename_i ls hls
  split at h
  · cases h
  rename_i o hp hfin
  split at h
  case h_2 => cases h
  rename_i o' hbox
  simp only [Option.some.injEq] at h
  subst h
  obtain ⟨vals, us, h1, h2, h3⟩ := results_sound Sm hls
  obtain ⟨fz1, gs, x1, F1, b1, n1, _⟩ := finD_sound Sm.hp h3 hfin
  obtain ⟨gs2, bg, hp2, F2, b2, n2, l2⟩ := finBoxes_sound F1.sim K hbox
  refine ⟨fn, retV vals, hfn, h1, fz1, M.trans (.of_fz x1), F2.sim.lt, fn, vals, us, gs, gs2, bg, hfn, rfl, h2, b1 o', ?_, ?_, ?_⟩
  · have : (o ++ o').drop (fn.resultTypes.toList.flatMap (kinds C.P)).length = o' := by rw [← n1]; simp
    rw [this]; exact b2
  · refine List.nodup_append.2 ⟨n2, (F1.trans F2).nd, fun x hx y hy e => ?_⟩
    subst e
    obtain ⟨i, y, u', _, hH, hb, hρ, hbl⟩ := l2 x hx
    have hb' := (F1.box i y hH).1 hb
    obtain ⟨⟨r', t, xs, ex, u, q1, q2, q3⟩, _⟩ := (F1.trans F2).gone x hy
    have hne : r' ≠ i := by intro e; subst e; rw [q1] at hb'; subst hb'; exact hH
    exact Sm.hp.dis r' i _ _ x hne (by rw [q1]; simp) (by rw [hb']; rintro rfl; exact hH) q2 hρ (.of q3) hbl
  · intro g hg
    obtain ⟨⟨r', t, xs, ex, u, q1, q2, q3⟩, _⟩ := (F1.trans F2).gone g hg
    exact Sm.hp.wr r' u g (by rw [q1]; simp) q2 (.of q3)

theorem fin_goes {f : FuncId} {sk : Skel} {r : List L} {S : Nat → Prop} {w0 : World} {fz0 : Fz} {b : Frame} {todo : List Item} (h : fin C f sk st = some r) (H : Here C w0 fz0 ρ0 S sk st a w) (hb : b.fn = f) (hk : b.kind = .normal)
    (hs : ∀ cs, step C.P (lone (b.at a todo) cs w) = .next (lone { b.at a todo with mode := .returning } cs w)) : Goes C.P b a todo w (Ends C f w0 fz0 ρ0 S sk r) := by
  intro cs
  obtain ⟨fn, v, h1, h2, h3⟩ := fin_sound h H
  have hd : a.defers = [] := by obtain ⟨_, _, _, _, _, _, e, _⟩ := H; exact e
  exact ⟨v, w, _, h3, .one (hs cs), rfl, rfl, hd, hk, fn, by rw [← hb] at h1; exact h1, h2⟩

structure Base (C : Cfg) (G : Req → R) : Prop where
  req : ReqOk C G
  ext : ExtOk C
  nc : NoCount C.P
  mix : C.P.follows .mixedOrders = true

theorem region_goes {G : Req → R} (B : Base C G) {f : FuncId} {sk : Skel} {r : List L} {S : Nat → Prop} {w0 : World} {fz0 : Fz} {b : Frame} {id : Nat} {ops : Array Oper} {draw : Bool} {k : List Item} {κ : St → R}
    (h : regionA C G ops draw st κ = some r) (H : Here C w0 fz0 ρ0 S sk st a w)
    (hκ : ∀ st' a' w', κ st' = some r → Here C w0 fz0 ρ0 S sk st' a' w' → Goes C.P b a' k w' (Ends C f w0 fz0 ρ0 S sk r)) : Goes C.P b a (.code (.region id ops draw) :: k) w (Ends C f w0 fz0 ρ0 S sk r) := by
  obtain ⟨fz, ρ, Sm, M, K, hout, hdf, hTb⟩ := H
  intro cs
  have hT0 : Tabs C w0 (Wr0 w0 S) := fun t ht => by
    obtain ⟨g, h1, h2, h3, h4⟩ := hTb t ht
    exact ⟨g, h1, h2, fun h => h.elim h3 (fun h => by omega), h4⟩
  have hw : Env C w (Wr0 w0 S) := ⟨fun k hk => .inr (Nat.le_trans M.size hk), hT0.move M⟩
  have hwp := regionA_sound B.req.1 B.ext B.nc B.mix (Q := fun e a' w' => e = .normal ∧ Good C w fz ρ (Wr0 w0 S) a.defers κ r a' w') (fun c a w hq => by cases hq.1) Sm hw h (id := id) (fun a' w' hg => ⟨rfl, hg⟩)
  obtain ⟨e, a', w', ⟨rfl, st', fz', ρ', k1, k2, k3, k4, k5⟩, harr⟩ := hwp b k cs
  obtain ⟨v, w2, fr, r1, r2, r3⟩ := hκ st' a' w' k1 ⟨fz', ρ', k2, M.trans k3, K.grow k4, hout, by rw [k5]; exact hdf, hTb⟩ cs
  exact ⟨v, w2, fr, r1, Steps.trans harr r2, r3⟩

theorem stepA_sound {G : Req → R} (B : Base C G) {f : FuncId} {sk : Skel} : ∀ (m : Nat) {todo : List Item} {st : St} {r : List L}, stepA C G f sk m todo st = some r → StateOk C f sk todo st r
  | 0, _, _, _, h => by simp [stepA] at h
  | m + 1, todo, st, r, h => by
    intro w0 fz0 ρ0 S a w b H hb hk
    unfold stepA at h
    split at h
    · exact fin_goes h H hb hk fun cs => step_end
    · rename_i c k
      split at h
      · exact fin_goes h H hb hk fun cs => step_ret
      · exact .step (fun cs => step_skip) (stepA_sound B m h w0 fz0 ρ0 S a w b H hb hk)
      · exact .step (fun cs => step_label) (stepA_sound B m h w0 fz0 ρ0 S a w b H hb hk)
      · exact .step (fun cs => step_seq) (stepA_sound B m h w0 fz0 ρ0 S a w b H hb hk)
      · rename_i x ca cb
        split at h
        case h_2 => cases h
        rename_i t ht
        obtain ⟨fz, ρ, Sm, rest⟩ := id H
        have hx := Sm.leaf x
        rw [ht] at hx
        have he := rep_bool hx
        have hk1 := fun v => St.know_eq st x v
        cases t with
        | true => rw [hk1 true ht] at h; exact .step (fun cs => step_cond (t := true) he) (stepA_sound B m h w0 fz0 ρ0 S a w b H hb hk)
        | false => rw [hk1 false ht] at h; exact .step (fun cs => step_cond (t := false) he) (stepA_sound B m h w0 fz0 ρ0 S a w b H hb hk)
      · exact .step (fun cs => step_block) (stepA_sound B m h w0 fz0 ρ0 S a w b H hb hk)
      · exact .step (fun cs => step_loop) (stepA_sound B m h w0 fz0 ρ0 S a w b H hb hk)
      · exact .step (fun cs => step_scope) (stepA_sound B m h w0 fz0 ρ0 S a w b H hb hk)
      · split at h
        case h_2 => cases h
        rename_i k' hk'
        exact .step (fun cs => step_exit hk') (stepA_sound B m h w0 fz0 ρ0 S a w b H hb hk)
      · split at h
        case h_2 => cases h
        rename_i k' hk'
        exact .step (fun cs => step_goto hk') (stepA_sound B m h w0 fz0 ρ0 S a w b H hb hk)
      · rename_i id ops draw
        split at h
        · split at h
          case h_2 => cases h
          rename_i st' hc
          refine B.req.2 _ _ _ _ _ h w0 fz0 ρ0 S a w b ?_ hb hk
          obtain ⟨fz, ρ, Sm, M, K, hout, hdf, hTb⟩ := H
          obtain ⟨ρ', Sm', hρ⟩ := canonSt_sound Sm hc
          have hlt : ∀ i v, ρ0 i = some v → i < sk.length := fun i v hv => Nat.lt_of_not_le fun hle => by rw [hout i hle] at hv; cases hv
          refine ⟨fz, ρ', Sm', M, ⟨fun j ks old hj => ?_, fun j t hj => by
            obtain ⟨u, h1, h2⟩ := K.arr j t hj
            exact ⟨u, h1, hρ _ _ (hlt _ _ h1) h2⟩⟩, hout, hdf, hTb⟩
          obtain ⟨⟨g, h1, h2⟩, h3⟩ := K.box j ks old hj
          refine ⟨⟨g, h1, hρ _ _ (hlt _ _ h1) h2⟩, fun l hl he i hi => ?_⟩
          obtain ⟨p, k1, k2⟩ := h3 l hl he i hi
          exact ⟨p, k1, hρ _ _ (hlt _ _ k1) k2⟩
        · exact region_goes B h H fun st' a' w' hs H' => stepA_sound B m ((fSt_eq C st' _).symm.trans hs) w0 fz0 ρ0 S a' w' b H' hb hk
      · cases h
    · exact .step (fun cs => step_inBlock) (stepA_sound B m h w0 fz0 ρ0 S a w b H hb hk)
    · exact .step (fun cs => step_inScope) (stepA_sound B m h w0 fz0 ρ0 S a w b H hb hk)
    · exact .step (fun cs => step_inLoop) (stepA_sound B m h w0 fz0 ρ0 S a w b H hb hk)
    · cases h

theorem skInv_start {hp : List B} {S : Nat → Prop} (H : HSim C.P w fz ρ S hp) : SkInv ρ ρ 0 (hp.map skelB) := by
  refine ⟨fun j ks old hj => ?_, fun j t hj => ?_⟩
  rotate_left
  · simp only [List.getElem?_map, Option.map_eq_some_iff] at hj
    obtain ⟨B, hB, hs⟩ := hj
    cases B with
    | arr t' xs =>
      have hb := H.blk j
      have : hp.getD j .dead = .arr t' xs := by simp [List.getD, hB]
      rw [this] at hb
      obtain ⟨u, us, k1, _⟩ := hb
      simp only [Nat.zero_add]
      exact ⟨u, k1, k1⟩
    | _ => simp [skelB] at hs
  simp only [List.getElem?_map, Option.map_eq_some_iff] at hj
  obtain ⟨B, hB, hs⟩ := hj
  cases B with
  | box ks' cs =>
    simp only [skelB, Sk.box.injEq] at hs
    obtain ⟨rfl, rfl⟩ := hs
    have hb := H.blk j
    have : hp.getD j .dead = .box ks' cs := by simp [List.getD, hB]
    rw [this] at hb
    obtain ⟨g, us, t, k1, k2, k3, k4, k5⟩ := hb
    simp only [Nat.zero_add]
    refine ⟨⟨g, k1, k1⟩, fun l hl he i hi => ?_⟩
    have key : ∀ (ks : List K) (cs : List L), l ∈ skelLs ks cs → othEq l l = false ∨ l ∈ cs := by
      intro ks
      induction ks with
      | nil => intro cs h; simp [skelLs] at h
      | cons k ks ih =>
        intro cs h
        have tail : l ∈ skelLs ks cs.tail → othEq l l = false ∨ l ∈ cs := fun h => (ih _ h).imp (fun e => e) List.mem_of_mem_tail
        cases k <;> simp only [skelLs, List.mem_cons] at h <;> rcases h with h | h <;> first
          | exact tail h
          | (subst h; exact .inl rfl)
          | (left
             cases hb : (cs.headD .any).isL <;> (rw [hb] at h; subst h; rfl))
          | (cases cs with
             | nil => left; simp at h; subst h; rfl
             | cons x xs => exact .inr (by simp at h; simp [h]))
    rcases key ks' cs hl with hm | hm
    · rw [hm] at he; cases he
    · obtain ⟨q, hq⟩ := List.mem_iff_getElem?.1 hm
      obtain ⟨u, _, hu⟩ := k3.get q l hq
      obtain ⟨p, hp⟩ := oth_refs he hu i hi
      exact ⟨p, hp, hp⟩
  | _ => simp [skelB] at hs

theorem runB_sound {G : Req → R} (B : Base C G) : ReqOk C (runB C G) := by
  refine ⟨fun f args hp r h w fz ρ S vs hTb H hargs => ?_, fun f sk todo st r h => ?_⟩
  · simp only [runB] at h
    split at h
    case h_2 => cases h
    rename_i fn hfn
    split at h
    case h_2 => cases h
    rename_i c hc
    let b : Frame := { (default : Frame) with fn := f, kind := .normal }
    have henter : Frame.enter C.P f vs .normal = b.at { tmps := vs ++ Array.replicate (fn.ntmps - vs.size) undef, defers := [] } [.code c] := by
      simp [Frame.enter, Frame.at, hfn, hc, b]
    have hlen : vs.size = args.length := by have := hargs.length; simpa using this
    have Sm : Sim C.P w fz ρ (Wr0 w S) { tmps := vs ++ Array.replicate (fn.ntmps - vs.size) undef, defers := [] } { tm := args ++ List.replicate (fn.ntmps - args.length) .undef, hp } := by
      refine ⟨?_, H.wrMono fun g hg => .inl hg⟩
      simp only [Array.toList_append, Array.toList_replicate, hlen]
      refine RepDs.append _ hargs (RepDs.of _ (by simp) fun i v d h1 h2 => ?_)
      have e1 : v = undef := by
        rw [List.getElem?_replicate] at h1
        split at h1
        · simpa using h1.symm
        · cases h1
      have e2 : d = D.undef := by
        rw [List.getElem?_replicate] at h2
        split at h2
        · simpa using h2.symm
        · cases h2
      subst e1 e2
      exact rep_undef
    have hs := stepA_sound B 4000 h w fz ρ S _ w b ⟨fz, ρ, Sm, .refl _ _ _, skInv_start H, fun i hi => H.out i (by simpa using hi), rfl, hTb⟩ rfl rfl
    intro cs
    obtain ⟨v, w', fr, ⟨fz', hE⟩, s, hfr, hl⟩ := hs cs
    exact ⟨.returned v, w', fr, ⟨v, fz', rfl, hE⟩, by rw [henter]; exact s, hfr, hl⟩
  · intro w0 fz0 ρ0 S a w b H hb hk
    simp only [runB] at h
    split at h
    case h_2 => cases h
    rename_i id ops draw rest
    exact region_goes B h H fun st' a' w' hs H' => stepA_sound B 4000 ((fSt_eq C st' _).symm.trans hs) w0 fz0 ρ0 S a' w' b H' hb hk

theorem run_sound (hE : ExtOk C) (hN : NoCount C.P) (hm : C.P.follows .mixedOrders = true) : ∀ k, ReqOk C (run C k)
  | 0 => ⟨fun f args hp r h => by simp [run] at h, fun f sk todo st r h => by simp [run] at h⟩
  | k + 1 => runB_sound ⟨run_sound hE hN hm k, hE, hN, hm⟩
end
end Go.Ab
namespace Go.Ab
section
variable {C C1 : Cfg} {w w' : World} {fz fz' : Fz} {ρ ρ' ρ0 : Rho}

abbrev Con := List D → List B → Option (Bool × List L)
def ExtFor (C : Cfg) (f : FuncId) (S : Con) : Prop := ∀ as hp r, S as hp = some (true, r) → ∀ (w : World) (fz : Fz) (ρ : Rho) (S : Nat → Prop) (vs : Array Value),
  Tabs C w S → HSim C.P w fz ρ S hp → RepDs (Rep C.P w fz ρ) vs.toList as →
  Calls C.P f vs w fun e w' => ∃ v fz', e = .returned v ∧ EndOk C f w fz ρ S (hp.map skelB) r v w' fz'
theorem extOk_of (h : ∀ f S, C.ext f = some S → ExtFor C f S) : ExtOk C := fun f S as hp r hf hs => h f S hf as hp r hs

theorem EndOk.to {f : FuncId} {S : Nat → Prop} {sk : Skel} {r : List L} {v : Value} (h : EndOk C1 f w fz ρ0 S sk r v w' fz') (hP : C.P = C1.P) (ho : C.own f = C1.own f) : EndOk C f w fz ρ0 S sk r v w' fz' :=
  ⟨h.mv, h.lt, by rw [hP, ho]; exact h.back⟩
theorem ExtFor.to {f : FuncId} {S : Con} (h : ExtFor C1 f S) (hP : C.P = C1.P) (ho : C.own f = C1.own f) (ht : C.tabs = C1.tabs) : ExtFor C f S := by
  intro as hp r hs w fz ρ S0 vs hT hlt ha
  have hT' : Tabs C1 w S0 := fun t h => by
    have := hT t (by rw [ht]; exact h)
    rw [hP] at this
    exact this
  rw [hP] at ha hlt ⊢
  refine (h as hp r hs w fz ρ S0 vs hT' hlt ha).mono ?_
  rintro e w' ⟨v, fz', rfl, E⟩
  exact ⟨v, fz', rfl, E.to hP ho⟩

theorem hsim_nil (S : Nat → Prop) (hlt : ∀ g o, fz g o → g < w.heap.size) : HSim C.P w fz (fun _ => none) S [] :=
  ⟨by simp, by simp, fun b => by simp [BS], by simp, by simp, hlt⟩

theorem extFor_run (hE : ExtOk C) (hN : NoCount C.P) (hm : C.P.follows .mixedOrders = true) {f : FuncId} {S : Con} (h : ∀ as hp r, S as hp = some (true, r) → ∃ k, run C k (.enter f as hp) = some r) : ExtFor C f S := by
  intro as hp r hs w fz ρ S0 vs hT hlt ha
  obtain ⟨k, hk⟩ := h as hp r hs
  exact (run_sound hE hN hm k).1 f as hp r hk w fz ρ S0 vs hT hlt ha

theorem endOk_two {f : FuncId} {fn : Func} {t : TypeId} {k : K} {l : L} {v : Value} {S : Nat → Prop} (hmv : Mv (fun k => S k ∨ w.heap.size ≤ k) w fz w' fz) (hlt : ∀ g o, fz g o → g < w'.heap.size) (hf : C.P.funcs[f]? = some fn) (ht : fn.resultTypes = #[t]) (hk : kinds C.P t = [k]) (ha : isAggT C.P t = false)
    (hns : (∀ t, k ≠ .sl t) ∧ k ≠ .oth) (hl : HasK k l) (hv : Rep C.P w' fz ρ v l) : EndOk C f w fz ρ S [] [l] v w' fz := by
  refine ⟨hmv, hlt, fn, [v], [v], [], [], [], hf, rfl, ?_, ?_, ?_, by simp, by simp⟩
  · simp only [ht, Vals]
    exact ⟨[v], [], rfl, by simp [hk], by simp [hk], by simp [ha], rfl⟩
  · simp only [ht, List.flatMap_cons, List.flatMap_nil, hk, List.append_nil]
    have hv0 : ∀ l, (∃ n k, l = .int k n) ∨ (∃ b, l = .bool b) ∨ (∃ s, l = .str s) → Rep C.P w' fz ρ v l → Rep C.P w' fz (fun _ => none) v l := by
      rintro l (⟨n, k, rfl⟩ | ⟨b, rfl⟩ | ⟨s, rfl⟩) h
      · rw [rep_int h]; exact .int _ _
      · rw [rep_bool h]; exact .bool _
      · rw [rep_str h]; exact .str _
    cases k with
    | sl t => exact absurd rfl (hns.1 t)
    | oth => exact absurd rfl hns.2
    | int k => obtain ⟨n, rfl⟩ := hl; simp only [Bk, List.headD_cons]; exact ⟨⟨n, rfl⟩, hv0 _ (.inl ⟨_, _, rfl⟩) hv, trivial⟩
    | bool => obtain ⟨n, rfl⟩ := hl; simp only [Bk, List.headD_cons]; exact ⟨⟨n, rfl⟩, hv0 _ (.inr (.inl ⟨_, rfl⟩)) hv, trivial⟩
    | str => obtain ⟨n, rfl⟩ := hl; simp only [Bk, List.headD_cons]; exact ⟨⟨n, rfl⟩, hv0 _ (.inr (.inr ⟨_, rfl⟩)) hv, trivial⟩
    | mp => obtain ⟨n, rfl⟩ := hl; simp only [Bk, List.headD_cons]; exact ⟨⟨n, rfl⟩, hv.of_hasK C.P (k := .mp) ⟨n, rfl⟩, trivial⟩
  · simp [BxS]

theorem endOk_plain {f : FuncId} {fn : Func} {t : TypeId} {k : K} {l : L} {v : Value} {S : Nat → Prop} (hlt : ∀ g o, fz g o → g < w.heap.size) (hf : C.P.funcs[f]? = some fn) (ht : fn.resultTypes = #[t]) (hk : kinds C.P t = [k]) (ha : isAggT C.P t = false)
    (hns : (∀ t, k ≠ .sl t) ∧ k ≠ .oth) (hl : HasK k l) (hv : Rep C.P w fz ρ v l) : EndOk C f w fz ρ S [] [l] v w fz :=
  endOk_two (.refl _ _ _) hlt hf ht hk ha hns hl hv

theorem extFor_plain {f : FuncId} {S : Con} {fn : Func} {t : TypeId} {k : K} (hf : C.P.funcs[f]? = some fn) (ht : fn.resultTypes = #[t]) (hk : kinds C.P t = [k]) (ha : isAggT C.P t = false) (hns : (∀ t, k ≠ .sl t) ∧ k ≠ .oth)
    (h : ∀ as hp r, S as hp = some (true, r) → ∃ l, hp = [] ∧ r = [l] ∧ HasK k l ∧ ∀ (w : World) (fz : Fz) (ρ : Rho) (vs : Array Value), RepDs (Rep C.P w fz ρ) vs.toList as → ∃ v, Rep C.P w fz ρ v l ∧ Calls C.P f vs w fun e w' => e = .returned v ∧ w' = w) : ExtFor C f S := by
  intro as hp r hs w fz ρ S0 vs hT hlt hargs
  obtain ⟨l, rfl, rfl, hkl, hc⟩ := h as hp r hs
  obtain ⟨v, hv, hcalls⟩ := hc w fz ρ vs hargs
  refine hcalls.mono ?_
  rintro e w' ⟨rfl, rfl⟩
  exact ⟨v, fz, rfl, endOk_plain hlt.lt hf ht hk ha hns hkl hv⟩

theorem extFor_below {f : FuncId} {S : Con} {fn : Func} {t : TypeId} {k : K} (hf : C.P.funcs[f]? = some fn) (ht : fn.resultTypes = #[t]) (hk : kinds C.P t = [k]) (ha : isAggT C.P t = false) (hns : (∀ t, k ≠ .sl t) ∧ k ≠ .oth)
    (h : ∀ as hp r, S as hp = some (true, r) → ∃ l, hp = [] ∧ r = [l] ∧ HasK k l ∧ ∀ (w : World) (fz : Fz) (ρ : Rho) (vs : Array Value), RepDs (Rep C.P w fz ρ) vs.toList as → ∃ v, (∀ w', Rep C.P w' fz ρ v l) ∧ Calls C.P f vs w fun e w' => e = .returned v ∧ Go.RowKit.Below w.heap.size w w') : ExtFor C f S := by
  intro as hp r hs w fz ρ S0 vs hT hlt hargs
  obtain ⟨l, rfl, rfl, hkl, hc⟩ := h as hp r hs
  obtain ⟨v, hv, hcalls⟩ := hc w fz ρ vs hargs
  refine hcalls.mono ?_
  rintro e w' ⟨rfl, B⟩
  exact ⟨v, fz, rfl, endOk_two (.of_old B.os B.tape B.output B.size B.block hlt.lt) (fun g o hg => Nat.lt_of_lt_of_le (hlt.lt g o hg) B.size) hf ht hk ha hns hkl (hv w')⟩

theorem extFor_tabs {f : FuncId} {S : Con} {fn : Func} {t : TypeId} {k : K} (hf : C.P.funcs[f]? = some fn) (ht : fn.resultTypes = #[t]) (hk : kinds C.P t = [k]) (ha : isAggT C.P t = false) (hns : (∀ t, k ≠ .sl t) ∧ k ≠ .oth)
    (h : ∀ as hp r, S as hp = some (true, r) → ∃ l, hp = [] ∧ r = [l] ∧ HasK k l ∧ ∀ (w : World) (fz : Fz) (ρ : Rho) (vs : Array Value), (∀ t ∈ C.tabs, ∃ cs, w.var? C.P t.1 = some cs ∧ t.2 cs) → RepDs (Rep C.P w fz ρ) vs.toList as → ∃ v, (∀ w', Rep C.P w' fz ρ v l) ∧ Calls C.P f vs w fun e w' => e = .returned v ∧ Go.RowKit.Below w.heap.size w w') : ExtFor C f S := by
  intro as hp r hs w fz ρ S0 vs hT hlt hargs
  obtain ⟨l, rfl, rfl, hkl, hc⟩ := h as hp r hs
  obtain ⟨v, hv, hcalls⟩ := hc w fz ρ vs (fun t ht => by obtain ⟨g, _, _, _, h⟩ := hT t ht; exact h) hargs
  refine hcalls.mono ?_
  rintro e w' ⟨rfl, B⟩
  exact ⟨v, fz, rfl, endOk_two (.of_old B.os B.tape B.output B.size B.block hlt.lt) (fun g o hg => Nat.lt_of_lt_of_le (hlt.lt g o hg) B.size) hf ht hk ha hns hkl (hv w')⟩

theorem calls_bool (hE : ExtOk C) (hN : NoCount C.P) (hm : C.P.follows .mixedOrders = true) {k : Nat} {f : FuncId} {fn : Func} {t : TypeId} {args : List D} {b : Bool} (h : run C k (.enter f args []) = some [.bool b])
    (hf : C.P.funcs[f]? = some fn) (ht : fn.resultTypes = #[t]) (hk : kinds C.P t = [.bool]) (hag : isAggT C.P t = false) (w : World) (hT : Tabs C w fun _ => False) {vs : Array Value} (ha : RepDs (Rep C.P w (fun _ _ => False) fun _ => none) vs.toList args) :
    Calls C.P f vs w fun e w' => e = .returned (.bool b) ∧ Go.RowKit.Below w.heap.size w w' := by
  refine ((run_sound hE hN hm k).1 f args [] _ h w (fun _ _ => False) (fun _ => none) (fun _ => False) vs hT (hsim_nil _ (fun _ _ h => h.elim)) ha).mono ?_
  rintro e w' ⟨v, fz', rfl, E⟩
  obtain ⟨fn', vals, us, gs, gs2, bg, k1, k2, k3, k4, _⟩ := E.back
  rw [hf] at k1
  cases k1
  rw [ht] at k3 k4
  simp only [List.flatMap_cons, List.flatMap_nil, hk, List.append_nil] at k4
  match vals, k3 with
  | [x], ⟨u1, u2, e1, e2, e3, e4, e5⟩ =>
    simp only [Vals] at e5
    subst e5
    rw [List.append_nil] at e1
    subst e1
    match us, k4 with
    | [u], k4 =>
      simp only [Bk, List.headD_cons] at k4
      have := rep_bool k4.2.1
      subst this
      simp only [hag, Bool.false_eq_true, if_false, List.headD_cons] at e4
      subst e4
      refine ⟨by rw [k2]; rfl, E.mv.os, E.mv.tape, E.mv.output, E.mv.size, fun k hk => E.mv.block k hk ?_⟩
      rintro (h | h)
      · exact h
      · omega
end

theorem keptBut_of {w w' : World} {may : MemPlace → Prop} (h1 : w'.os = w.os) (h2 : w'.output = w.output) (h3 : ∀ k, k < w.heap.size → w'.heap[k]? = w.heap[k]?) : w.keptBut w' may := by
  refine ⟨h1, h2, fun i hi => ?_⟩
  rw [h3 i hi]
  have := (World.keptBut_refl w may).2.2 i hi
  exact this
end Go.Ab
namespace Go.Ab

def Runs (C : Cfg) (q : Req) (r : List L) : Prop := ∃ k, run C k q = some r
def RunsF (C : Cfg) (F : (Req → R) → R) (r : List L) : Prop := ∃ k, F (run C k) = some r
theorem Runs.by {C : Cfg} {q : Req} {F : (Req → R) → R} {r : List L} (h : ∀ G, runB C G q = F G) (h' : RunsF C F r) : Runs C q r := by
  obtain ⟨k, hk⟩ := h'
  exact ⟨k + 1, (h _).trans hk⟩
theorem RunsF.ret {C : Cfg} {r : List L} : RunsF C (fun _ => some r) r := ⟨0, rfl⟩
theorem RunsF.ret' {C : Cfg} {r r' : List L} (h : r' = r) : RunsF C (fun _ => some r') r := ⟨0, by rw [h]⟩
theorem RunsF.go {C : Cfg} {q : Req} {r : List L} (h : Runs C q r) : RunsF C (fun G => G q) r := h
theorem RunsF.go' {C : Cfg} {q q' : Req} {r : List L} (e : q' = q) (h : Runs C q r) : RunsF C (fun G => G q') r := by rw [e]; exact h

def look (xs : List (Nat × Con)) (f : FuncId) : Option Con := match xs with
  | [] => none
  | (g, c) :: rest => cond (Nat.beq f g) (some c) (look rest f)
theorem look_mem : ∀ {xs : List (Nat × Con)} {f : FuncId} {S : Con}, look xs f = some S → (f, S) ∈ xs
  | [], _, _, h => by simp [look] at h
  | (g, c) :: rest, f, S, h => by
    unfold look at h
    cases hb : Nat.beq f g with
    | true =>
      rw [hb] at h
      simp only [cond_true, Option.some.injEq] at h
      have := Nat.eq_of_beq_eq_true hb
      subst this; subst h
      exact List.mem_cons_self
    | false =>
      rw [hb] at h
      exact List.mem_cons_of_mem _ (look_mem h)
def lookN {α : Type} (xs : List (Nat × α)) (f : Nat) : Option α := match xs with
  | [] => none
  | (g, c) :: rest => cond (Nat.beq f g) (some c) (lookN rest f)
def lookP (xs : List (Nat × List (Nat × List Nat))) (f : FuncId) (id : Nat) : Option (List Nat) := match lookN xs f with
  | some l => lookN l id
  | none => none
def memN (xs : List Nat) (f : Nat) : Bool := match xs with
  | [] => false
  | g :: rest => cond (Nat.beq f g) true (memN rest f)

theorem ev_lt_t {a b : Int} (h : a < b) : ltI a b = true := by simpa using h
theorem ev_lt_f {a b : Int} (h : b ≤ a) : ltI a b = false := by simpa using h
theorem ev_le_t {a b : Int} (h : a ≤ b) : leI a b = true := by simpa using h
theorem ev_le_f {a b : Int} (h : b < a) : leI a b = false := by simpa using h
theorem ev_eq_t {a b : Int} (h : a = b) : (a == b) = true := by simpa using h
theorem ev_eq_f {a b : Int} (h : a ≠ b) : (a == b) = false := by simpa using h
theorem ev_ne_t {a b : Int} (h : a ≠ b) : (a != b) = true := by simpa using h
theorem ev_ne_f {a b : Int} (h : a = b) : (a != b) = false := by simpa using h
theorem ev_blt {a b : Nat} (h : a ≤ b) : Nat.ble a b = true := Nat.ble_eq_true_of_le h
theorem w64 {n : Int} (h1 : -9223372036854775808 ≤ n) (h2 : n ≤ 9223372036854775807) : wrapI .i64 n = n := by
  rw [wrapI_eq]
  simp only [IntKind.wrap, IntKind.bits, IntKind.signed]
  simp
  split <;> omega
theorem w8 {n : Int} (h1 : 0 ≤ n) (h2 : n ≤ 255) : wrapI .u8 n = n := by
  rw [wrapI_eq]
  simp only [IntKind.wrap, IntKind.bits, IntKind.signed]
  simp
  omega
theorem w32 {n : Int} (h1 : -2147483648 ≤ n) (h2 : n ≤ 2147483647) : wrapI .i32 n = n := by
  rw [wrapI_eq]
  simp only [IntKind.wrap, IntKind.bits, IntKind.signed]
  simp
  split <;> omega
theorem wu64 {n : Int} (h1 : 0 ≤ n) (h2 : n ≤ 18446744073709551615) : wrapI .u64 n = n := by
  rw [wrapI_eq]
  simp only [IntKind.wrap, IntKind.bits, IntKind.signed]
  simp
  omega
theorem wu32 {n : Int} (h1 : 0 ≤ n) (h2 : n ≤ 4294967295) : wrapI .u32 n = n := by
  rw [wrapI_eq]
  simp only [IntKind.wrap, IntKind.bits, IntKind.signed]
  simp
  omega
theorem imax : IntKind.i64.max = 9223372036854775807 := by decide
theorem xo {g : Bool} {r0 r : List L} (h : some (g, r0) = some (true, r)) : g = true ∧ r0 = r := by
  simpa using h
theorem dec_of {p : Prop} [Decidable p] (h : decide p = true) : p := of_decide_eq_true h

def byI (s : ByteArray) (i : Int) : Int := ((s.data.getD i.toNat 0).toNat : Int)
def atL (xs : List (List L)) (i : Int) : List L := xs.getD i.toNat []
def cellN : Nat → List L → L
  | 0, e => e.headD .any
  | k + 1, e => cellN k e.tail
def cI (k : Nat) (e : List L) : Int := (cellN k e).toInt
def cO (k : Nat) (e : List L) : Bool := (cellN k e).toBool
def cT (k : Nat) (e : List L) : ByteArray := (cellN k e).toStr
def cX (k : Nat) (e : List L) : List (List L) := (cellN k e).toLst
def cM (k : Nat) (e : List L) : List (ByteArray × Int) := (cellN k e).toMp
def arrB (f : Nat → Bool) (n : Nat) : List L := (List.range n).map fun j => .bool (f j)
def arrGet (f : Nat → Bool) (n i : Nat) : L := (arrB f n).getD i .any
theorem arrGet_eq {f : Nat → Bool} {n i : Nat} (h : i < n) : arrGet f n i = .bool (f i) := by
  unfold arrGet arrB
  simp [List.getD, h]
theorem arrB_congr {f g : Nat → Bool} {n : Nat} (h : ∀ i, i < n → f i = g i) : arrB f n = arrB g n := by
  unfold arrB
  refine List.map_congr_left fun i hi => ?_
  rw [h i (by simpa using hi)]
def matZ (n : Nat) : List (List (List L)) := List.replicate n []
def roomN (n b : Nat) : Bool := decide (n * b ≤ 140737488355328) && decide (n ≤ maxLen)
theorem roomN_t {n b : Nat} (h1 : n * b ≤ 140737488355328) (h2 : n ≤ 281474976710656) : roomN n b = true := by
  unfold roomN maxLen
  simp; omega
noncomputable def dupN : Nat → R → R
  | 0, a => a
  | n + 1, a => both a (dupN n a)
theorem dupN_eq : ∀ (n : Nat) (a : R), dupN n a = a
  | 0, _ => rfl
  | n + 1, a => by rw [dupN, dupN_eq n a, both_self]
theorem RunsF.dup {C : Cfg} {F : (Req → R) → R} {r : List L} {n : Nat} (h : RunsF C F r) : RunsF C (fun G => dupN n (F G)) r := by
  simpa only [dupN_eq] using h
theorem anyOf_eq {left : List (ByteArray × Int)} {f : ByteArray × Int → List (ByteArray × Int) → R} {r : List L} (h0 : 0 < left.length) (h : ∀ i, i < left.length → f (left.getD i default) (left.eraseIdx i) = some r) : anyOf left f = some r := by
  unfold anyOf
  have hex : ∃ r, ∀ i, i < left.length → f (left.getD i default) (left.eraseIdx i) = r := ⟨_, h⟩
  rw [dif_pos hex, if_neg (by omega)]
  exact (Classical.choose_spec hex 0 h0).symm.trans (h 0 h0)
abbrev an : D := .lf .any
abbrev bl (s : ByteArray) : List UInt8 := s.data.toList
abbrev mk (l : List UInt8) : ByteArray := ⟨⟨l⟩⟩
theorem mk_bl (s : ByteArray) : mk (bl s) = s := rfl
theorem bl_mk (l : List UInt8) : bl (mk l) = l := rfl
theorem str_cases (s : ByteArray) : ∃ l, s = mk l := ⟨bl s, rfl⟩
theorem toL (s : ByteArray) : s.toList = bl s := ByteArray.toList_eq s
theorem toL_mk (l : List UInt8) : (mk l).toList = l := toL _
theorem size_mk (l : List UInt8) : (mk l).size = l.length := rfl
theorem bl_size (s : ByteArray) : (bl s).length = s.size := Array.length_toList
theorem bl_inj {s t : ByteArray} (h : bl s = bl t) : s = t := by
  obtain ⟨⟨a⟩⟩ := s
  obtain ⟨⟨b⟩⟩ := t
  simp only [bl] at h
  rw [h]
theorem bl_ext (s : ByteArray) (i j : Nat) : bl (s.extract i j) = ((bl s).take j).drop i := by
  simp only [bl, ByteArray.data_extract, Array.toList_extract, List.extract_eq_take_drop]
  rw [List.drop_take]
theorem bl_append (s t : ByteArray) : bl (s ++ t) = bl s ++ bl t := by simp [bl, ByteArray.data_append]
theorem ext_mk (l : List UInt8) (i j : Nat) : (mk l).extract i j = mk ((l.take j).drop i) := bl_inj (bl_ext _ _ _)
theorem app_mk (l m : List UInt8) : mk l ++ mk m = mk (l ++ m) := bl_inj (bl_append _ _)
theorem get_mk (l : List UInt8) (i : Nat) : Array.getD (⟨l⟩ : Array UInt8) i 0 = l.getD i 0 := by
  rw [Array.getD_eq_getD_getElem?, List.getD_eq_getElem?_getD]
  simp
theorem byI_mk (l : List UInt8) (i : Nat) : byI (mk l) (i : Int) = ((l.getD i 0).toNat : Int) := by
  unfold byI
  rw [Int.toNat_natCast]
  show ((Array.getD (⟨l⟩ : Array UInt8) i 0).toNat : Int) = _
  rw [get_mk]
theorem atL_map {α : Type} (f : α → List L) (xs : List α) (i : Nat) (d : α) (h : i < xs.length) : atL (xs.map f) (i : Int) = f (xs.getD i d) := by
  unfold atL
  simp [List.getD, h]
theorem mk_inj {l m : List UInt8} : mk l = mk m ↔ l = m := by simp
theorem u8_lo (b : UInt8) : (0 : Int) ≤ (b.toNat : Int) := Int.natCast_nonneg _
theorem u8_hi (b : UInt8) : (b.toNat : Int) ≤ 255 := by have := b.toNat_lt; omega
theorem getD_drop {l : List UInt8} {i : Nat} (h : i < l.length) : ∃ b, l.drop i = b :: l.drop (i + 1) ∧ l.getD i 0 = b ∧ l[i]? = some b := by
  refine ⟨l[i], List.drop_eq_getElem_cons h, by simp [List.getD, h], by simp [h]⟩
end Go.Ab
