/- Variables, literals, stores, make. -/
import Derived.Test.YtnalffdkchhcoaaGreatDoorPartAb1
import Derived.Laws.CopyRow
import Derived.Lib.AppendStr
import Derived.Laws.Cover3
namespace Go.Ab
section
variable {C : Cfg} {w w' : World} {fz fz' : Fz} {ρ : Rho} {Wr : Nat → Prop} {a : Act} {st : St}

theorem alloc_ok {G : Req → R} (S : Sim C.P w fz ρ Wr a st) (hw : ∀ k, w.heap.size ≤ k → Wr k) {o : Oper} {κ : D → St → R} {r : List L} {t : TypeId} (hop : o.op = .alloc t)
    (h : effA C G o st κ = some r) : OpOk C w fz ρ Wr a o κ r := by
  simp only [effA, hop] at h
  split at h
  · rename_i ls hz
    split at h
    case isFalse => cases h
    rename_i hcond
    obtain ⟨i, z, hi, hiz, hr, ht⟩ := zeroOf_sound (w := w) (fz := fz) (ρ := ρ) hz
    have hrun : (execOp a.eval o).run C.P w = .ok (.value (.pointer (some ⟨w.heap.size, 0, none⟩))) (w.alloc (.cells z.cells t)) := by
      simp [execOp, hop, Instr.alloc, zeroValue, typeInfo, hi, hiz, newVar, newRow]
    have hz := newVar_old (C := C) (st := st) (t := t) S.hp hr
    split at h
    · refine newVar_ok S hw (t := t) (z := z) hrun (repLs_self (fun v hv => ?_) hz) (tyB_self ht) hcond.2 h
      cases hv
      exact .slf _ 0 ⟨w.heap.size, 0, none⟩ _ (by simp) (.inl rfl)
    · exact newVar_ok S hw (t := t) (z := z) hrun hz ht hcond.2 h
  · cases h

theorem box_ok (S : Sim C.P w fz ρ Wr a st) (hw : ∀ k, w.heap.size ≤ k → Wr k) {o : Oper} {κ : D → St → R} {r : List L} {t : TypeId} {x : Operand} (hop : o.op = .box t x)
    (h : boxW C t x st κ = some r) : OpOk C w fz ρ Wr a o κ r := by
  unfold boxW at h
  split at h
  · rename_i ls hc
    split at h
    case isFalse => cases h
    rename_i hf
    refine newVar_ok S hw (t := t) (z := a.eval x) ?_ (newVar_old (C := C) (st := st) S.hp (cells_sound S.hp.one (S.ev x) hc)) (fitsAll_ty hf.1) hf.2 h
    simp [execOp, hop, Instr.box, newVar, newRow]
  · cases h

theorem HSim.put (H : HSim C.P w fz ρ Wr st.hp) {b : Nat} {v : Value} {g : Nat} {B : B} (hlive : st.hp.getD b .dead ≠ .dead) (hv : ρ b = some v) (hg : Bl v g)
    (hsize : w.heap.size ≤ w'.heap.size) (hother : ∀ k, k ≠ g → w'.heap[k]? = w.heap[k]?)
    (hc : Kp fz w w') (hB : BS C.P w' fz ρ b B) :
    HSim C.P w' fz ρ Wr (st.hp.set b B) := by
  have hlt := live_lt hlive
  have hl : ∀ c, (st.hp.set b B).getD c .dead ≠ .dead → st.hp.getD c .dead ≠ .dead := by
    intro c h
    rw [getD_set] at h
    split at h
    · rename_i e; rw [← e.1]; exact hlive
    · exact h
  refine ⟨H.one, fun c h => H.out c (by simpa using h), fun c => ?_, fun c d v1 u1 g1 hne h1 h2 => H.dis c d v1 u1 g1 hne (hl c h1) (hl d h2), fun c u g1 h1 => H.wr c u g1 (hl c h1), fun g o h => Nat.lt_of_lt_of_le (H.lt g o h) hsize⟩
  rw [getD_set]
  split
  · rename_i e; rw [← e.1]; exact hB
  · rename_i e
    have hne : b ≠ c := fun e' => e ⟨e', hlt⟩
    by_cases hd : st.hp.getD c .dead = .dead
    · rw [hd]; trivial
    · refine (H.blk c).mono C.P hc (fun _ _ h => h) (fun _ h => h) (fun u g1 hu hg1 => ⟨hother g1 ?_, fun _ h => h⟩) (fun _ _ _ h => h)
      rintro rfl
      exact H.dis b c v u _ hne hlive hd hv hu hg hg1

theorem Sim.put (S : Sim C.P w fz ρ Wr a st) {b : Nat} {v : Value} {g : Nat} {B : B} (hlive : st.hp.getD b .dead ≠ .dead) (hv : ρ b = some v) (hg : Bl v g)
    (hsize : w.heap.size ≤ w'.heap.size) (hother : ∀ k, k ≠ g → w'.heap[k]? = w.heap[k]?)
    (hc : Kp fz w w') (hB : BS C.P w' fz ρ b B) :
    Sim C.P w' fz ρ Wr a { st with hp := st.hp.set b B } :=
  ⟨RepDs.mono S.tm fun _ _ _ h => h.mono C.P hc (fun _ _ h => h) (fun _ _ _ h => h), S.hp.put hlive hv hg hsize hother hc hB⟩

theorem set_row_fz {g : Nat} {us vs : Array Value} {t : TypeId} (hg : w.heap[g]? = some (.cells us t (0, 0)))
    (hf : ∀ o, fz g o → us.toList[o]? = vs.toList[o]?) : Kp fz w (w.setRow g vs) := by
  refine ⟨fun g' o v hz hc => ?_, fun g' es c hz hm => ?_⟩
  · by_cases e : g' = g
    · subst e
      rw [cell_box hg] at hc
      rw [cell_box (setRow_heap w g' us vs t (0, 0) hg), ← hf o hz]
      exact hc
    · rw [World.cell?_of_block (w := w) (a := ⟨g', o, none⟩) (setRow_other w g g' vs e)]
      exact hc
  · have e : g' ≠ g := fun e => by rw [e, hg] at hm; cases hm
    rw [setRow_other w g g' vs e]
    exact hm

theorem Mv.setRow {g : Nat} {us vs : Array Value} {t : TypeId} (hg : w.heap[g]? = some (.cells us t (0, 0))) (hw : Wr g)
    (hf : ∀ o, fz g o → us.toList[o]? = vs.toList[o]?) : Mv Wr w fz (w.setRow g vs) fz :=
  ⟨rfl, rfl, rfl, by simp, fun k _ hn => setRow_other w g k vs (fun e => hn (e ▸ hw)), set_row_fz hg hf, .refl⟩

theorem repLs_one {vs : List Value} {ls : List L} (hρ : ∀ b v, ρ b = some v → v.oneCell' = true) (h : RepLs (Rep C.P w fz ρ) vs ls) (hn : ∀ l ∈ ls, l ≠ .any) : ∀ v ∈ vs, v.oneCell' = true := by
  intro v hv
  obtain ⟨i, hi⟩ := List.mem_iff_getElem?.1 hv
  obtain ⟨l, hl, hr⟩ := h.get' i v hi
  exact hr.one C.P hρ (hn l (List.mem_of_getElem? hl))
theorem fits_known : ∀ {ks : List K} {ls : List L}, fitsAll ks ls = true → ∀ l ∈ ls, l ≠ .any
  | [], [], _, l, h => by simp at h
  | [], _ :: _, h, _, _ => by simp [fitsAll] at h
  | _ :: _, [], h, _, _ => by simp [fitsAll] at h
  | k :: ks, x :: xs, h, l, hl => by
    simp only [fitsAll, Bool.and_eq_true] at h
    rcases List.mem_cons.1 hl with e | e
    · subst e; rintro rfl; cases k <;> simp [K.fits] at h
    · exact fits_known h.2 l e

theorem splice_len {o : Nat} {ls cs : List L} (h : o + ls.length ≤ cs.length) : (splice o ls cs).length = cs.length := by
  unfold splice; simp; omega

theorem rep_splice {us : List Value} {cs ls : List L} {vs : List Value} {r : Value → L → Prop} (h : RepLs r us cs) (hv : RepLs r vs ls) (o : Nat) :
    RepLs r (us.take o ++ vs ++ us.drop (o + vs.length)) (splice o ls cs) := by
  unfold splice
  rw [hv.length]
  exact ((h.take o).append hv).append (h.drop _)

theorem take_splice {us vs : List Value} {o n : Nat} (h : o + vs.length ≤ n) (hl : n ≤ us.length) :
    (us.take o ++ vs ++ us.drop (o + vs.length)).take n = (us.take n).take o ++ vs ++ (us.take n).drop (o + vs.length) := by
  have h1 : (us.take o).length = o := by rw [List.length_take]; omega
  rw [List.take_append, List.take_append, List.length_append, h1, List.drop_take]
  rw [List.take_of_length_le (l := us.take o) (by omega), List.take_of_length_le (l := vs) (by omega), List.take_take, Nat.min_eq_left (by omega)]
theorem HasKs.append : ∀ {ks ks' : List K} {ls ls' : List L}, HasKs ks ls → HasKs ks' ls' → HasKs (ks ++ ks') (ls ++ ls')
  | [], _, [], _, _, h => h
  | _ :: _, _, _ :: _, _, h, h' => ⟨h.1, HasKs.append h.2 h'⟩
theorem cut3 {α : Type} (ks : List α) (o n : Nat) : ks = ks.take o ++ (ks.drop o).take n ++ ks.drop (o + n) := by
  rw [List.append_assoc, show ks.drop (o + n) = (ks.drop o).drop n from by rw [List.drop_drop], List.take_append_drop, List.take_append_drop]
theorem hasKs_splice {ks : List K} {cs ls : List L} {o : Nat} (h : HasKs ks cs) (hl : HasKs ((ks.drop o).take ls.length) ls) (_ : o + ls.length ≤ ks.length) : HasKs ks (splice o ls cs) := by
  unfold splice
  rw [cut3 ks o ls.length]
  exact ((h.take o).append hl).append (h.drop _)
theorem splice_append_left {x F ls : List L} {o : Nat} (h : o + ls.length ≤ x.length) : splice o ls (x ++ F) = splice o ls x ++ F := by
  unfold splice
  rw [List.take_append_of_le_length (by omega), List.drop_append_of_le_length h]
  simp
theorem splice_append_right {x F ls : List L} {o : Nat} : splice (x.length + o) ls (x ++ F) = x ++ splice o ls F := by
  unfold splice
  rw [List.take_length_add_append, Nat.add_assoc, List.drop_length_add_append]
  simp
theorem flatten_splice {n o : Nat} {ls : List L} : ∀ {xs : List (List L)} {i : Nat}, (∀ e ∈ xs, e.length = n) → i < xs.length → o + ls.length ≤ n →
    (xs.set i (splice o ls (xs.getD i []))).flatten = splice (i * n + o) ls xs.flatten
  | [], _, _, hi, _ => by simp at hi
  | x :: xs, 0, h, _, ho => by
    have hx := h x (by simp)
    simp only [List.set_cons_zero, List.flatten_cons, List.getD, List.getElem?_cons_zero, Option.getD_some, Nat.zero_mul, Nat.zero_add]
    rw [splice_append_left (by omega)]
  | x :: xs, i + 1, h, hi, ho => by
    have hx := h x (by simp)
    have ih := flatten_splice (xs := xs) (i := i) (fun e he => h e (by simp [he])) (by simpa using hi) ho
    simp only [List.set_cons_succ, List.flatten_cons, List.getD, List.getElem?_cons_succ]
    simp only [List.getD] at ih
    rw [ih, show (i + 1) * n + o = x.length + (i * n + o) from by rw [hx, Nat.add_mul]; omega, splice_append_right]

theorem run_storeAt {t : TypeId} {v : Value} {g o : Nat} {us : Array Value} {et : TypeId} (h0 : sizeT C.P t = v.cells.size) (h1 : 0 < v.cells.size) (hg : w.heap[g]? = some (.cells us et (0, 0)))
    (hl : o + v.cells.size ≤ us.size) (hone : ∀ u ∈ v.cells.toList, u.oneCell' = true) :
    (Instr.storeAt t (.pointer (some ((⟨g, 0, none⟩ : Addr).add o))) v).run C.P w = .ok () (w.setRow g (us.toList.take o ++ v.cells.toList ++ us.toList.drop (o + v.cells.size)).toArray) := by
  have hs := run_storeCells_at C.P g o et v.cells.toList 0 us w hg (by simpa using hl) hone
  have hsz := run_sizeOf' (P := C.P) w (t := t) (by omega)
  rw [add_zero']
  simp only [Instr.storeAt, Instr.sureAddr, storeVar, Sem.run_bind, Sem.run_pure, Result.andThen_ok, hsz, h0, ne_eq, not_true_eq_false, if_false, hs]
  simp

theorem K.sel_true {k : K} {x y : L} (hx : TyK k x) (hy : TyK k y) (b : Bool) : k.sel b x y = cond b x y := by
  cases k <;> simp only [TyK] at hx hy
  · obtain ⟨_, rfl⟩ := hx; obtain ⟨_, rfl⟩ := hy; cases b <;> rfl
  · obtain ⟨_, rfl⟩ := hx; obtain ⟨_, rfl⟩ := hy; cases b <;> rfl
  · obtain ⟨_, rfl⟩ := hx; obtain ⟨_, rfl⟩ := hy; cases b <;> rfl
  · rfl
  · rfl
  · rfl
theorem setA_eq {ks : List K} {cs : List L} {k : K} {base n i : Nat} {l : L} (h : TyB ks cs) (hk : (ks.drop base).take n = List.replicate n k) (hl : TyK k l) (hi : i < n) : setA k base n i l cs = cs.set (base + i) l := by
  have hlen := h.length
  have hkl : base + n ≤ ks.length := by
    have := congrArg List.length hk
    simp at this; omega
  apply List.ext_getElem?
  intro j
  unfold setA
  rw [List.getElem?_set]
  by_cases h1 : j < base
  · rw [List.getElem?_append_left (by simp; omega), List.getElem?_take, if_pos h1, if_neg (by omega)]
  · rw [List.getElem?_append_right (by simp; omega)]
    have htk : (cs.take base).length = base := by simp; omega
    rw [htk]
    have hz : (List.zipWith (fun j c => k.sel (Nat.beq j i) l c) (List.range n) ((cs.drop base).take n)).length = n := by simp; omega
    by_cases h2 : j < base + n
    · rw [List.getElem?_append_left (by omega), List.getElem?_zipWith, List.getElem?_range (by omega), List.getElem?_take, if_pos (by omega), List.getElem?_drop]
      have hj : base + (j - base) = j := by omega
      rw [hj, List.getElem?_eq_getElem (by omega)]
      have hkj : ks[j]? = some k := by
        have : ((ks.drop base).take n)[j - base]? = some k := by rw [hk, List.getElem?_replicate, if_pos (by omega)]
        rw [List.getElem?_take, if_pos (by omega), List.getElem?_drop, hj] at this
        exact this
      have hc := h.get j k (cs[j]'(by omega)) hkj (List.getElem?_eq_getElem (by omega))
      simp only
      rw [K.sel_true hl hc]
      by_cases e : base + i = j
      · rw [if_pos e, if_pos (by omega)]
        have : Nat.beq (j - base) i = true := by rw [Nat.beq_eq]; omega
        rw [this]; rfl
      · rw [if_neg e]
        have : Nat.beq (j - base) i = false := by
          rw [← Bool.not_eq_true, Nat.beq_eq]; omega
        rw [this]; rfl
    · rw [List.getElem?_append_right (by omega), hz, List.getElem?_drop, if_neg (by omega)]
      congr 1; omega

end
end Go.Ab
namespace Go.Ab
section
variable {C : Cfg} {w w' : World} {fz fz' : Fz} {ρ ρ' : Rho} {Wr : Nat → Prop} {a : Act} {st : St}

theorem killMs_map (r : Nat) : ∀ ls : List L, killMs r ls = ls.map (killM r)
  | [] => by simp [killMs]
  | l :: ls => by simp [killMs, killMs_map r ls]

theorem rep_killM {P : Program} {r : Nat} (hc : Kp fz w w') (hf : ∀ g o, fz g o → fz' g o)
    (hρ : ∀ b, b ≠ r → ∀ v, ρ b = some v → ρ' b = some v) (hr : ∀ A n c us, ρ r = some (pinM (.slice A n c) us) → ∃ us', ρ' r = some (pinM (.slice A n c) us'))
    {v : Value} {l : L} (h : Rep P w fz ρ v l) : Rep P w' fz' ρ' v (killM r l) := by
  induction h with
  | int k n => exact .int k n
  | bool b => exact .bool b
  | str s => exact .str s
  | lst A n c t xs u ad h1 h2 h3 h4 h5 h6 h7 _ =>
    exact (Rep.lst A n c t xs u ad h1 h2 h3 h4 h5 h6 h7 : Rep P w fz ρ _ _).mono P hc hf (by simp [refsL])
  | row r' v u h hl =>
    simp only [killM]
    split
    · exact .any _
    · exact .row r' v u (hρ r' ‹_› u h) hl
  | nils t => exact .nils t
  | ptr b o ad h =>
    simp only [killM]
    split
    · exact .any _
    · exact .ptr b o ad (hρ b ‹_› _ h)
  | aptr b base n i ad h hi =>
    simp only [killM]
    split
    · exact .any _
    · exact .aptr b base n i ad (hρ b ‹_› _ h) hi
  | eptr t e o u ad h1 h2 h3 h4 _ => exact (Rep.eptr t e o u ad h1 h2 h3 h4 : Rep P w fz ρ _ _).mono P hc hf (by simp [refsL])
  | rptr r' t i o ad n c h hi =>
    simp only [killM]
    split
    · exact .any _
    · exact .rptr r' t i o ad n c (hρ r' ‹_› _ h) hi
  | ars r' A n c u h hl =>
    simp only [killM]
    split
    · exact .any _
    · exact .ars r' A n c u (hρ r' ‹_› _ h) hl
  | elp r' t i o ad n c h hi =>
    simp only [killM]
    split
    · exact .any _
    · exact .elp r' t i o ad n c (hρ r' ‹_› _ h) hi
  | mat r' A n c us h =>
    simp only [killM]
    by_cases e : r' = r
    · subst e
      obtain ⟨us', h'⟩ := hr A n c us h
      exact .mat r' A n c us' h'
    · exact .mat r' A n c us (hρ r' e _ h)
  | mptr r' i ad n c us h hi =>
    simp only [killM]
    by_cases e : r' = r
    · subst e
      obtain ⟨us', h'⟩ := hr (some ad) n c us h
      exact .mptr r' i ad n c us' h' hi
    · exact .mptr r' i ad n c us (hρ r' e _ h) hi
  | mrow r' i v us A n c h hi =>
    simp only [killM]
    split
    · exact .any _
    · exact .mrow r' i v us A n c (hρ r' ‹_› _ h) hi
  | mel r' t i j o v us ad n c h hi hj =>
    simp only [killM]
    split
    · exact .any _
    · exact .mel r' t i j o v us ad n c (hρ r' ‹_› _ h) hi hj
  | slf b o ad v h hv =>
    simp only [killM]
    split
    · exact .any _
    · exact .slf b o ad v (hρ b ‹_› _ h) hv
  | mp b es h hz => exact .mp b es (hc.2 _ _ _ hz h) (hf _ _ hz)
  | nilp => exact .nilp
  | nilf => exact .nilf
  | clo f vs cs h1 _ ih =>
    simp only [killM, killMs_map]
    refine .clo f vs _ (by simpa using h1) fun i l hl => ?_
    simp only [List.getElem?_map, Option.map_eq_some_iff] at hl
    obtain ⟨l0, h3, rfl⟩ := hl
    exact ih i l0 h3
  | any v => exact .any v

theorem repLs_mapM {r r' : Value → L → Prop} {f : L → L} (hf : ∀ v l, r v l → r' v (f l)) : ∀ {vs : List Value} {ls : List L}, RepLs r vs ls → RepLs r' vs (ls.map f)
  | [], [], _ => trivial
  | _ :: _, _ :: _, h => ⟨hf _ _ h.1, repLs_mapM hf h.2⟩
mutual
theorem repD_killM {r r' : Value → L → Prop} {k : Nat} (hf : ∀ v l, r v l → r' v (killM k l)) : ∀ {v : Value} {d : D}, RepD r v d → RepD r' v (killMD k d)
  | v, .lf l, h => by simp only [RepD, killMD] at h ⊢; exact hf v l h
  | v, .agg ls, h => by
    simp only [RepD, killMD] at h ⊢
    obtain ⟨cs, e, h⟩ := h
    exact ⟨cs, e, by rw [killMs_map]; exact repLs_mapM hf h⟩
  | v, .tup ds, h => by
    simp only [RepD, killMD] at h ⊢
    obtain ⟨vs, e, h⟩ := h
    exact ⟨vs, e, repDs_killM hf h⟩
theorem repDs_killM {r r' : Value → L → Prop} {k : Nat} (hf : ∀ v l, r v l → r' v (killM k l)) : ∀ {vs : List Value} {ds : List D}, RepDs r vs ds → RepDs r' vs (killMDs k ds)
  | [], [], _ => by simp [RepDs, killMDs]
  | v :: vs, d :: ds, h => by
    simp only [RepDs, killMDs] at h ⊢
    exact ⟨repD_killM hf h.1, repDs_killM hf h.2⟩
  | [], _ :: _, h => by simp [RepDs] at h
  | _ :: _, [], h => by simp [RepDs] at h
end
theorem tyB_killM (r : Nat) : ∀ {ks : List K} {ls : List L}, TyB ks ls → TyB ks (ls.map (killM r))
  | [], [], _ => trivial
  | k :: _, l :: _, h => ⟨by
      have := h.1
      cases k <;> simp only [TyK] at this ⊢ <;> first | trivial | (obtain ⟨_, rfl⟩ := this; exact ⟨_, rfl⟩), tyB_killM r h.2⟩
theorem getD_map_killM (r : Nat) (hp : List B) (b : Nat) : (hp.map (killMB r)).getD b .dead = killMB r (hp.getD b .dead) := by
  simp only [List.getD, List.getElem?_map]
  cases hp[b]? <;> rfl
theorem killMB_dead (r : Nat) (x : B) : killMB r x = .dead ↔ x = .dead := by cases x <;> simp [killMB]
theorem BS.killM {P : Program} {r b : Nat} {B : B} (h : BS P w fz ρ b B) (hne : b ≠ r)
    (hc : Kp fz w w') (hf : ∀ g o, fz g o → fz' g o)
    (hρ : ∀ b, b ≠ r → ∀ v, ρ b = some v → ρ' b = some v) (hr : ∀ A n c us, ρ r = some (pinM (.slice A n c) us) → ∃ us', ρ' r = some (pinM (.slice A n c) us'))
    (hh : ∀ v g, ρ b = some v → Bl v g → w'.heap[g]? = w.heap[g]? ∧ ∀ o, fz' g o → fz g o) : BS P w' fz' ρ' b (killMB r B) := by
  cases B with
  | box ks cs =>
    obtain ⟨g, us, t, e1, e2, e3, e4, e5⟩ := h
    obtain ⟨n1, n2⟩ := hh _ g e1 (.of rfl)
    refine ⟨g, us, t, hρ b hne _ e1, by rw [n1]; exact e2, ?_, by rw [killMs_map]; exact tyB_killM r e4, fun o ho => e5.1 o (n2 o ho), e5.2⟩
    rw [killMs_map]
    exact repLs_mapM (fun u l hu => rep_killM hc hf hρ hr hu) e3
  | _ => exact h.mono P hc hf (hρ b hne) hh (by simp [refsB])

theorem storeM_ok (S : Sim C.P w fz ρ Wr a st) {o : Oper} {κ : D → St → R} {r : List L} {t : TypeId} {x y : Operand} (hop : o.op = .store t x y) {st' : St} {g0 : Bool}
    (hst : storeM C t (st.leaf x) (st.leaf y) st = some (g0, st')) (h : cond g0 (κ .undef st') none = some r) : OpOk C w fz ρ Wr a o κ r := by
  unfold storeM at hst
  split at hst
  case h_2 => cases hst
  rename_i rr i k ex ey
  split at hst
  case h_2 => cases hst
  rename_i t' e yss e' ys hm hk
  split at hst
  case isFalse => cases hst
  rename_i hcond
  obtain ⟨rfl, rfl, hsz⟩ := hcond
  simp only [Option.some.injEq, Prod.mk.injEq] at hst
  obtain ⟨rfl, rfl⟩ := hst
  have hpos : leI 1 ys.length = true := by
    cases hb : leI 1 (ys.length : Int) with
    | true => rfl
    | false => rw [hb] at h; cases h
  rw [hpos] at h
  simp only [cond_true] at h
  rw [leI_eq, decide_eq_true_eq] at hpos
  have hx := S.leaf x
  have hy := S.leaf y
  rw [ex] at hx
  rw [ey] at hy
  have hBm := S.hp.blk rr
  rw [hm] at hBm
  obtain ⟨v, us, h1, h2, h3, h4, h5, h6, h7, h8, h9, h10⟩ := hBm
  have hBk := S.hp.blk k
  rw [hk] at hBk
  obtain ⟨vk, usk, k1, k2, k3, k4, k5, k6, k7, k8⟩ := hBk
  have hlm : st.hp.getD rr .dead ≠ .dead := by rw [hm]; simp
  have hlk : st.hp.getD k .dead ≠ .dead := by rw [hk]; simp
  have hrk : rr ≠ k := by rintro rfl; rw [hm] at hk; cases hk
  generalize hvx : a.eval x = vx at hx
  cases hx with
  | mptr _ _ ad n cap us0 h1' hi =>
    rw [h1] at h1'
    obtain ⟨rfl, rfl⟩ := pinM_inj (Option.some.inj h1')
    have hvy : a.eval y = vk := by
      generalize hvy : a.eval y = vy at hy
      cases hy with
      | row _ _ u0 hh hlk =>
        rw [k1] at hh
        obtain rfl := Option.some.inj hh
        rcases hlk.own k2 with rfl | ⟨_, hn0, _⟩
        · rfl
        · omega
    rcases id h2 with ⟨hul, ⟨hh, _⟩ | ⟨g, cap', cur, hh, hbg, hg, hnc, hcm, hcs, htake⟩⟩
    · cases hh
    simp only [Value.slice.injEq, Option.some.injEq] at hh
    obtain ⟨rfl, rfl, rfl⟩ := hh
    have hvkc : vk.cells = #[vk] := by rcases k2.2 with ⟨rfl, _⟩ | ⟨_, _, _, rfl, _⟩ <;> rfl
    have hvk1 : vk.oneCell' = true := S.hp.one k vk k1
    rw [Nat.mul_one] at hul htake hcs
    have hil : i + 1 ≤ cur.size := by omega
    have hs := run_storeAt (C := C) (t := t') (v := a.eval y) (g := g) (o := i) (us := cur) (et := t') (w := w) (by rw [hvy, hvkc]; simpa using hsz) (by rw [hvy, hvkc]; simp) hg (by rw [hvy, hvkc]; simpa using hil) (by rw [hvy, hvkc]; simpa using hvk1)
    rw [hvy, hvkc] at hs
    generalize harr : (cur.toList.take i ++ (#[vk] : Array Value).toList ++ cur.toList.drop (i + (#[vk] : Array Value).size)).toArray = arr at hs
    have hBv : Bl (pinM (.slice (some ⟨g, 0, none⟩) yss.length cap) us) g := bl_pinM.2 (.inl rfl)
    have hnofz : ∀ o, ¬ fz g o := fun o => h8 g o hBv
    have hf : ∀ o', fz g o' → cur.toList[o']? = arr.toList[o']? := fun o' ho => absurd ho (hnofz o')
    have hc := set_row_fz (fz := fz) hg hf
    have hother : ∀ j, j ≠ g → (w.setRow g arr).heap[j]? = w.heap[j]? := fun j hj => setRow_other w g j _ hj
    have hkb : ∀ g', bk vk = some g' → ¬ Bl (pinM (.slice (some ⟨g, 0, none⟩) yss.length cap) us) g' := fun g' hg' hb => S.hp.dis rr k _ _ g' hrk hlm hlk h1 k1 hb (.of hg')
    have hkg : bk vk ≠ some g := fun e => hkb g e hBv
    have hbl : ∀ g', Bl (pinM (.slice (some ⟨g, 0, none⟩) yss.length cap) (us.set i vk)) g' → Bl (pinM (.slice (some ⟨g, 0, none⟩) yss.length cap) us) g' ∨ bk vk = some g' := by
      intro g' hb
      rcases bl_pinM.1 hb with hb1 | ⟨u, hu, hb1⟩
      · exact .inl (bl_pinM.2 (.inl hb1))
      · rcases List.mem_or_eq_of_mem_set hu with hu1 | hu1
        · exact .inl (bl_pinM.2 (.inr ⟨u, hu1, hb1⟩))
        · rw [hu1] at hb1; exact .inr hb1
    let ρ' : Rho := fun j => if j = rr then some (pinM (.slice (some ⟨g, 0, none⟩) yss.length cap) (us.set i vk)) else ρ j
    have hρ : ∀ b, b ≠ rr → ∀ u, ρ b = some u → ρ' b = some u := fun b hb u hu => by simp [ρ', hb, hu]
    have hρr : ∀ A n c us0, ρ rr = some (pinM (.slice A n c) us0) → ∃ us', ρ' rr = some (pinM (.slice A n c) us') := by
      intro A n c us0 hh
      rw [h1] at hh
      obtain ⟨hh1, _⟩ := pinM_inj (Option.some.inj hh)
      rw [← hh1]
      exact ⟨us.set i vk, if_pos rfl⟩
    have hgl : ∀ b, (((st.hp.map (killMB rr)).set rr (.mat t' e' (yss.set i ys))).set k .dead).getD b .dead = if b = k then .dead else if b = rr then .mat t' e' (yss.set i ys) else killMB rr (st.hp.getD b .dead) := by
      intro b
      have hlk' := live_lt hlk
      have hlm' := live_lt hlm
      rw [getD_set, getD_set, getD_map_killM]
      by_cases e1 : b = k
      · subst e1; simp [hlk']
      · rw [if_neg (fun h => e1 h.1.symm), if_neg e1]
        by_cases e2 : b = rr
        · subst e2; simp [hlm']
        · rw [if_neg (fun h => e2 h.1.symm), if_neg e2]
    have hl : ∀ b, (((st.hp.map (killMB rr)).set rr (.mat t' e' (yss.set i ys))).set k .dead).getD b .dead ≠ .dead → b ≠ k ∧ st.hp.getD b .dead ≠ .dead := by
      intro b h
      rw [hgl] at h
      split at h
      · exact absurd rfl h
      · rename_i e1
        refine ⟨e1, ?_⟩
        split at h
        · rename_i e2; subst e2; exact hlm
        · exact fun e => h ((killMB_dead rr _).2 e)
    have hmv : ∀ {t : TypeId} {z n : Nat} {v : Value} {us : List Value}, w.ownsRow 0 t z v n us → bk v ≠ some g → (w.setRow g arr).ownsRow 0 t z v n us :=
      fun ho hne => ownsRow_move ho fun g' hg' => hother g' (fun e => hne (e ▸ hg'))
    have hH : HSim C.P (w.setRow g arr) fz ρ' Wr (((st.hp.map (killMB rr)).set rr (.mat t' e' (yss.set i ys))).set k .dead) := by
      refine ⟨?_, ?_, ?_, ?_, ?_, fun g o h => by simpa using S.hp.lt g o h⟩
      · intro b u hu
        simp only [ρ'] at hu
        split at hu
        · cases hu; rfl
        · exact S.hp.one b u hu
      · intro b hb
        simp at hb
        have hlm' := live_lt hlm
        simp only [ρ']
        rw [if_neg (by omega)]
        exact S.hp.out b hb
      · intro b
        rw [hgl]
        split
        · trivial
        · rename_i e1
          split
          · rename_i e2
            subst e2
            refine ⟨.slice (some ⟨g, 0, none⟩) yss.length cap, us.set i vk, by simp [ρ'], ⟨by simpa using hul, .inr ⟨g, cap, arr, by simp, hbg, setRow_heap w g cur arr t' (0, 0) hg, by simpa using hnc, hcm, ?_, ?_⟩⟩, h3, h4, h5, h6, ?_, ?_, ?_, ?_⟩
            · rw [← harr]
              simp only [List.size_toArray, List.length_append, List.length_take, List.length_drop, Array.length_toList, List.length_cons, List.length_nil]
              simp
              omega
            · rw [← harr, List.length_set, Nat.mul_one]
              have := take_splice (us := cur.toList) (vs := [vk]) (o := i) (n := yss.length) (by simp only [List.length_singleton]; omega) (by simpa using (by omega : yss.length ≤ cur.size))
              simp only [List.length_singleton] at this
              rw [htake] at this
              rw [List.set_eq_take_append_cons_drop, if_pos (by omega)]
              simpa using this
            · intro i1 u zs hu hz
              rw [List.getElem?_set] at hu hz
              by_cases e : i = i1
              · subst e
                rw [if_pos rfl, if_pos (by omega)] at hu hz
                cases hu; cases hz
                refine ⟨usk, hmv k2 hkg, k3.mono fun v l hl hv => hv.mono C.P hc (fun _ _ h => h) ?_, k4⟩
                obtain ⟨e, he, hle⟩ := List.mem_flatten.1 hl
                obtain ⟨kk, hk⟩ := HasKs.mem (k4 e he) l hle
                simp [hk.refs]
              · rw [if_neg e] at hu hz
                obtain ⟨cs, m1, m2, m3⟩ := h7 i1 u zs hu hz
                refine ⟨cs, hmv m1 fun hb => ?_, m2.mono fun v l hl hv => hv.mono C.P hc (fun _ _ h => h) ?_, m3⟩
                · exact h10 u g (List.mem_of_getElem? hu) hb rfl
                · obtain ⟨e, he, hle⟩ := List.mem_flatten.1 hl
                  obtain ⟨kk, hk⟩ := HasKs.mem (m3 e he) l hle
                  simp [hk.refs]
            · intro g' o hb ho
              rcases hbl g' hb with hb | hb
              · exact h8 g' o hb ho
              · have := (k7 g' o hb ho).1
                cases this
            · intro i1 j1 u u' g' hu hu' hb hb'
              rw [List.getElem?_set] at hu hu'
              by_cases e : i = i1
              · by_cases e' : i = j1
                · omega
                · rw [if_neg e'] at hu'
                  rw [if_pos e, if_pos (by omega)] at hu
                  cases hu
                  exact absurd (bl_pinM.2 (.inr ⟨u', List.mem_of_getElem? hu', hb'⟩)) (hkb g' hb)
              · rw [if_neg e] at hu
                by_cases e' : i = j1
                · rw [if_pos e'] at hu'
                  split at hu' <;> simp at hu'
                  subst hu'
                  exact absurd (bl_pinM.2 (.inr ⟨u, List.mem_of_getElem? hu, hb⟩)) (hkb g' hb')
                · rw [if_neg e'] at hu'
                  exact h9 i1 j1 u u' g' hu hu' hb hb'
            · intro u g' hu hb
              rcases List.mem_or_eq_of_mem_set hu with hu | rfl
              · exact h10 u g' hu hb
              · intro e
                exact hkb g' hb (bl_pinM.2 (.inl e))
          · rename_i e2
            by_cases hd : st.hp.getD b .dead = .dead
            · rw [hd]; trivial
            · refine (S.hp.blk b).killM e2 hc (fun _ _ h => h) hρ hρr (fun u g1 hu hg1 => ⟨hother g1 ?_, fun _ h => h⟩)
              rintro rfl
              exact S.hp.dis rr b _ u _ (Ne.symm e2) hlm hd h1 hu hBv hg1
      · intro b c' v1 u1 g1 hne hb1 hc1 hv1 hu1 hg1 hg2
        obtain ⟨nb, lb⟩ := hl b hb1
        obtain ⟨nc, lc⟩ := hl c' hc1
        simp only [ρ'] at hv1 hu1
        split at hv1
        · rename_i e1
          subst e1
          rw [if_neg (Ne.symm hne)] at hu1
          cases hv1
          rcases hbl g1 hg1 with hb | hb
          · exact S.hp.dis b c' _ _ g1 hne hlm lc h1 hu1 hb hg2
          · exact S.hp.dis k c' _ _ g1 (Ne.symm nc) hlk lc k1 hu1 (.of hb) hg2
        · split at hu1
          · rename_i e1
            subst e1
            cases hu1
            rcases hbl g1 hg2 with hb | hb
            · exact S.hp.dis b c' _ _ g1 hne lb hlm hv1 h1 hg1 hb
            · exact S.hp.dis b k _ _ g1 nb lb hlk hv1 k1 hg1 (.of hb)
          · exact S.hp.dis b c' _ _ g1 hne lb lc hv1 hu1 hg1 hg2
      · intro b u g1 hb1 hu hg1
        obtain ⟨nb, lb⟩ := hl b hb1
        simp only [ρ'] at hu
        split at hu
        · rename_i e1
          cases hu
          rcases hbl g1 hg1 with hb | hb
          · exact S.hp.wr rr _ g1 hlm h1 hb
          · exact S.hp.wr k _ g1 hlk k1 (.of hb)
        · exact S.hp.wr b u g1 lb hu hg1
    refine ⟨.undef, _, undef, w.setRow g arr, fz, ρ', h, rep_undef, ⟨repDs_killM (fun u l hu => rep_killM hc (fun _ _ h => h) hρ hρr hu) S.tm, hH⟩, .setRow hg (S.hp.wr rr _ g hlm h1 hBv) hf, fun b p hp hb => ?_, .inr ⟨?_, rfl⟩⟩
    · by_cases e : b = rr
      · subst e
        rw [h1] at hb
        cases hb
        rcases hp with ⟨_, hp⟩ | ⟨_, hp⟩
        · cases hp
        · rename_i q
          have h0 : us = [] := (by simpa [pinM, pinV] using hp : (Value.slice (some ⟨g, 0, none⟩) yss.length cap) = q ∧ us = []).2
          subst h0
          simp at hul
          omega
      · exact hρ b e p hb
    · simp [execOp, hop, hvx, hvy, hs]

end
end Go.Ab
namespace Go.Ab
section
variable {C : Cfg} {w w' : World} {fz fz' : Fz} {ρ ρ' : Rho} {Wr : Nat → Prop} {a : Act} {st : St}

theorem row_store {t e : TypeId} {xs : List (List L)} {us : List Value} {ad : Addr} {n c i ofs : Nat} {ls : List L} {y : Value} (h2 : w.ownsRow 0 e (kinds C.P e).length (.slice (some ad) n c) xs.length us)
    (h3 : RepLs (Rep C.P w fz ρ) us xs.flatten) (h4 : ∀ x ∈ xs, Conf C.P e x) (hi : i < n) (hk : HasKs (((kinds C.P e).drop ofs).take ls.length) ls) (h0 : 0 < ls.length) (hsz : sizeT C.P t = ls.length)
    (hval : RepLs (Rep C.P w fz ρ) y.cells.toList ls) (hone : ∀ u ∈ y.cells.toList, u.oneCell' = true) (hnofz : ∀ o, ¬ fz ad.block o) :
    ∃ (cur arr : Array Value) (et : TypeId), ad = ⟨ad.block, 0, none⟩ ∧ w.heap[ad.block]? = some (.cells cur et (0, 0)) ∧
      (Instr.storeAt t (.pointer (some (ad.add (i * (kinds C.P e).length + ofs)))) y).run C.P w = .ok () (w.setRow ad.block arr) ∧
      ∃ us', (w.setRow ad.block arr).ownsRow 0 e (kinds C.P e).length (.slice (some ad) n c) (xs.set i (splice ofs ls (xs.getD i []))).length us' ∧
        RepLs (Rep C.P (w.setRow ad.block arr) fz ρ) us' (xs.set i (splice ofs ls (xs.getD i []))).flatten ∧ ∀ x ∈ xs.set i (splice ofs ls (xs.getD i [])), Conf C.P e x := by
  obtain ⟨hul, hown⟩ := h2
  rcases hown with ⟨hh, _⟩ | ⟨g, cap, cur, hh, hbg, hg, hnc, hcm, hcs, htake⟩
  · cases hh
  cases hh
  have hall : ∀ x ∈ xs, x.length = (kinds C.P e).length := fun x hx => (h4 x hx).length
  have hm : xs.getD i [] ∈ xs := by simp [List.getD, List.getElem?_eq_getElem hi]
  have hole : ofs + ls.length ≤ (kinds C.P e).length := by
    have := hk.length
    rw [List.length_take, List.length_drop] at this
    omega
  have hin : i * (kinds C.P e).length + (kinds C.P e).length ≤ xs.length * (kinds C.P e).length := by
    rw [← Nat.succ_mul]; exact Nat.mul_le_mul_right _ hi
  have hcap : xs.length * (kinds C.P e).length ≤ cur.size := by rw [hcs]; exact Nat.mul_le_mul_right _ hnc
  have hvl : y.cells.size = ls.length := by rw [← hval.length]; simp
  have hs := run_storeAt (C := C) (t := t) (v := y) (g := g) (o := i * (kinds C.P e).length + ofs) (us := cur) (et := e) (w := w) (by omega) (by omega) hg (by omega) hone
  have hf : ∀ o', fz g o' → cur.toList[o']? = ((cur.toList.take (i * (kinds C.P e).length + ofs) ++ y.cells.toList ++ cur.toList.drop (i * (kinds C.P e).length + ofs + y.cells.size)).toArray).toList[o']? := fun o' ho => absurd ho (hnofz o')
  have husz : us.length = xs.length * (kinds C.P e).length := hul
  have hnew : (xs.set i (splice ofs ls (xs.getD i []))).flatten = splice (i * (kinds C.P e).length + ofs) ls xs.flatten :=
    flatten_splice hall hi hole
  refine ⟨cur, _, e, rfl, hg, hs, us.take (i * (kinds C.P e).length + ofs) ++ y.cells.toList ++ us.drop (i * (kinds C.P e).length + ofs + y.cells.size), ⟨?_, .inr ⟨g, _, _, by rw [List.length_set], hbg, setRow_heap w g cur _ e (0, 0) hg, by simpa using hnc, hcm, ?_, ?_⟩⟩, ?_, ?_⟩
  · simp only [List.length_append, List.length_take, List.length_drop, Array.length_toList, List.length_set]
    omega
  · simp only [List.size_toArray, List.length_append, List.length_take, List.length_drop, Array.length_toList]
    omega
  · rw [← htake]
    simp only [List.length_set]
    have := take_splice (us := cur.toList) (vs := y.cells.toList) (o := i * (kinds C.P e).length + ofs) (n := xs.length * (kinds C.P e).length) (by simp only [Array.length_toList]; omega) (by simpa using hcap)
    simpa using this
  · rw [hnew]
    have := rep_splice h3 hval (i * (kinds C.P e).length + ofs)
    simp only [Array.length_toList] at this
    exact RepLs.mono this fun v l _ hr => hr.mono C.P (set_row_fz hg hf) (fun _ _ h => h) (fun _ _ _ h => h)
  · intro el hel
    rcases List.mem_or_eq_of_mem_set hel with h9 | h9
    · exact h4 el h9
    · subst h9
      have hc := h4 _ hm
      unfold Conf at hc ⊢
      exact hasKs_splice hc hk hole

theorem store_ok (S : Sim C.P w fz ρ Wr a st) {o : Oper} {κ : D → St → R} {r : List L} {t : TypeId} {x y : Operand} (hop : o.op = .store t x y)
    (h : storeW C t x y st κ = some r) : OpOk C w fz ρ Wr a o κ r := by
  unfold storeW at h
  split at h
  · exact storeM_ok S hop ‹_› h
  split at h
  case h_2 => cases h
  rename_i st' hst
  have hrun : ∀ W : World, (Instr.storeAt t (a.eval x) (a.eval y)).run C.P w = .ok () W → (execOp a.eval o).run C.P w = .ok .skip W := by
    intro W hW
    simp [execOp, hop, hW]
  unfold storeA at hst
  split at hst
  · cases hst
  rename_i ls hcells
  split at hst
  case isFalse => cases hst
  rename_i hsz
  obtain ⟨hsz, h0⟩ := hsz
  have hev : RepD (Rep C.P w fz ρ) (a.eval y) (storeV C t y st) := by
    unfold storeV
    split
    · exact show Rep _ _ _ _ _ _ from .nils _
    · exact S.ev _
  have hval := cells_sound S.hp.one hev hcells
  have hvlen : (a.eval y).cells.size = ls.length := by rw [← hval.length]; simp
  have hx := S.leaf x
  split at hst
  · -- a box
    rename_i b ofs e
    rw [e] at hx
    split at hst
    · rename_i ks cs hb
      split at hst
      case isFalse => cases hst
      rename_i hfit
      simp only [Option.some.injEq] at hst
      subst hst
      have hB := S.hp.blk b
      rw [hb] at hB
      obtain ⟨g, us, tt, h1, h2, h3, h4, h5⟩ := hB
      generalize hv : a.eval x = vx at hx
      cases hx with
      | ptr _ _ ad h1' =>
        rw [h1] at h1'
        cases h1'
        have hty := fitsAll_ty hfit
        have hle : ofs + ls.length ≤ cs.length := by
          have := hty.length
          rw [List.length_take, List.length_drop] at this
          rw [h4.length]; omega
        have husl : us.size = cs.length := by rw [← h3.length]; simp
        have hs := run_storeAt (C := C) (t := t) (v := a.eval y) (g := g) (o := ofs) (us := us) (et := tt) (w := w) (by omega) (by omega) h2 (by omega) (repLs_one S.hp.one hval (fits_known hfit))
        have hlive : st.hp.getD b .dead ≠ .dead := by rw [hb]; simp
        have hf : ∀ o', fz g o' → us.toList[o']? = ((us.toList.take ofs ++ (a.eval y).cells.toList ++ us.toList.drop (ofs + (a.eval y).cells.size)).toArray).toList[o']? := fun o' ho => absurd ho (h5.1 o')
        refine ⟨.undef, _, undef, _, fz, ρ, h, rep_undef, S.put hlive h1 (.of rfl) (by simp) (fun k hk => setRow_other w g k _ hk) (set_row_fz h2 hf) ?_, .setRow h2 (S.hp.wr b _ g hlive h1 (.of rfl)) hf, .refl ρ, .inr ⟨hrun _ (by rw [hv]; exact hs), rfl⟩⟩
        refine ⟨g, _, tt, h1, setRow_heap w g us _ tt (0, 0) h2, ?_, ?_, h5⟩
        · have h9 : RepLs (Rep C.P w fz ρ) ((us.toList.take ofs ++ (a.eval y).cells.toList ++ us.toList.drop (ofs + (a.eval y).cells.size)).toArray).toList (splice ofs ls cs) := by simpa using rep_splice h3 hval ofs
          exact h9.mono fun v l _ hr => hr.mono C.P (set_row_fz h2 hf) (fun _ _ h => h) (fun _ _ _ h => h)
        · unfold splice
          have e1 : ks = ks.take ofs ++ (ks.drop ofs).take ls.length ++ ks.drop (ofs + ls.length) := by
            rw [List.append_assoc, show ks.drop (ofs + ls.length) = (ks.drop ofs).drop ls.length from by rw [List.drop_drop], List.take_append_drop, List.take_append_drop]
          rw [e1]
          exact ((h4.take ofs).append hty).append (by
            have := h4.drop (ofs + ls.length)
            exact this)
    · cases hst
  · -- an element of an array
    rename_i b base n i e
    rw [e] at hx
    split at hst
    · rename_i ks cs l hb
      split at hst
      · rename_i k hk
        split at hst
        case isFalse => cases hst
        rename_i hfit
        obtain ⟨hks, hfit⟩ := hfit
        simp only [Option.some.injEq] at hst
        subst hst
        have hB := S.hp.blk b
        rw [hb] at hB
        obtain ⟨g, us, tt, h1, h2, h3, h4, h5⟩ := hB
        generalize hv : a.eval x = vx at hx
        cases hx with
        | aptr _ _ _ _ ad h1' hi =>
          rw [h1] at h1'
          cases h1'
          have hkk : ks[base + i]? = some k := by
            have : ((ks.drop base).take n)[i]? = some k := by rw [hks]; simp [hi]
            rw [List.getElem?_take, if_pos hi, List.getElem?_drop] at this
            exact this
          have hlt : base + i < cs.length := by rw [h4.length]; exact (List.getElem?_eq_some_iff.1 hkk).1
          rw [setA_eq h4 hks (fits_ty hfit) hi] at h
          have husl : us.size = cs.length := by rw [← h3.length]; simp
          have hv1 : (a.eval y).cells.size = 1 := by simpa using hvlen
          have hs := run_storeAt (C := C) (t := t) (v := a.eval y) (g := g) (o := base + i) (us := us) (et := tt) (w := w) (by simp at hsz; omega) (by omega) h2 (by omega) (repLs_one S.hp.one hval (fits_known (ks := [k]) (by simp [fitsAll, hfit])))
          have hlive : st.hp.getD b .dead ≠ .dead := by rw [hb]; simp
          have hf : ∀ o', fz g o' → us.toList[o']? = ((us.toList.take (base + i) ++ (a.eval y).cells.toList ++ us.toList.drop (base + i + (a.eval y).cells.size)).toArray).toList[o']? := fun o' ho => absurd ho (h5.1 o')
          refine ⟨.undef, _, undef, _, fz, ρ, h, rep_undef, S.put hlive h1 (.of rfl) (by simp) (fun k hk => setRow_other w g k _ hk) (set_row_fz h2 hf) ?_, .setRow h2 (S.hp.wr b _ g hlive h1 (.of rfl)) hf, .refl ρ, .inr ⟨hrun _ (by rw [hv]; exact hs), rfl⟩⟩
          refine ⟨g, _, tt, h1, setRow_heap w g us _ tt (0, 0) h2, ?_, ?_, h5⟩
          · have h6 := rep_splice h3 hval (base + i)
            have h7 : splice (base + i) [l] cs = cs.set (base + i) l := by
              unfold splice
              rw [List.set_eq_take_append_cons_drop, if_pos hlt]
              simp
            rw [h7] at h6
            have h9 : RepLs (Rep C.P w fz ρ) ((us.toList.take (base + i) ++ (a.eval y).cells.toList ++ us.toList.drop (base + i + (a.eval y).cells.size)).toArray).toList (cs.set (base + i) l) := by simpa using h6
            exact h9.mono fun v l _ hr => hr.mono C.P (set_row_fz h2 hf) (fun _ _ h => h) (fun _ _ _ h => h)
          · refine TyB.of (by simp [h4.length]) fun j k' l' hk' hl' => ?_
            rw [List.getElem?_set] at hl'
            split at hl'
            · rename_i e
              subst e
              rw [hkk] at hk'; cases hk'
              simp [hlt] at hl'
              subst hl'
              exact fits_ty hfit
            · exact h4.get j k' l' hk' hl'
      · cases hst
    · cases hst
  · -- an element of a slice of the call's own
    rename_i rr e' i ofs e
    rw [e] at hx
    split at hst
    case h_2 => cases hst
    rename_i ls' hp' hfr
    split at hst
    case h_2 => cases hst
    rename_i et xs hb
    split at hst
    case isFalse => cases hst
    rename_i hfit
    obtain ⟨he, hfit⟩ := hfit
    subst he
    simp only [Option.some.injEq] at hst
    subst hst
    obtain ⟨fz1, x1, H1, hval1, hfrz, hlen1⟩ := frzLs_sound S.hp hfr hval
    have hls' : ls'.length = ls.length := by rw [← hval1.length, hval.length]
    have hB := H1.blk rr
    rw [hb] at hB
    obtain ⟨rv, us, h1, h2, h3, h4, h5, h6, h7, h8⟩ := hB
    generalize hv : a.eval x = vx at hx
    cases hx with
    | rptr _ _ _ _ ad n c h1' hi =>
      rw [h1] at h1'
      cases h1'
      have hk1 := frz_hasKs hfit hfrz
      rw [← hls'] at hk1
      have hlive : hp'.getD rr .dead ≠ .dead := by rw [hb]; simp
      have hnofz : ∀ o', ¬ fz1 ad.block o' := fun o' ho => by have := (h7 ad.block o' rfl ho).1; cases this
      obtain ⟨cur, arr, et, had, hg, hs, us', m1, m2, m3⟩ := row_store (C := C) (t := t) h2 h3 h4 hi hk1 (by omega) (by omega) hval1 (repLs_one H1.one hval1 (fun l hl => (hfrz l hl).ne)) hnofz
      have hf : ∀ o', fz1 ad.block o' → cur.toList[o']? = arr.toList[o']? := fun o' ho => absurd ho (hnofz o')
      have S1 : Sim C.P w fz1 ρ Wr a { st with hp := hp' } := S.fzmono x1.1 H1
      exact ⟨.undef, _, undef, _, fz1, ρ, h, rep_undef, S1.put hlive h1 (.of rfl) (by simp) (fun k hk => setRow_other w ad.block k _ hk) (set_row_fz hg hf) ⟨_, us', h1, m1, m2, m3, h5, h6, fun g' o' hg' ho' => by
        simp only [bk, Option.some.injEq] at hg'
        subst hg'
        exact absurd ho' (hnofz o'), fun h => by cases h⟩, (Mv.of_fz x1).trans (.setRow hg (H1.wr rr _ ad.block hlive h1 (.of rfl)) hf), .refl ρ, .inr ⟨hrun _ (by rw [hv]; exact hs), rfl⟩⟩
  · -- an element of a slice that came in
    rename_i rr e' i ofs e
    rw [e] at hx
    split at hst
    case h_2 => cases hst
    rename_i ls' hp' hfr
    split at hst
    case h_2 => cases hst
    rename_i et xs hb
    split at hst
    case isFalse => cases hst
    rename_i hfit
    obtain ⟨he, hfit⟩ := hfit
    subst he
    simp only [Option.some.injEq] at hst
    subst hst
    obtain ⟨fz1, x1, H1, hval1, hfrz, hlen1⟩ := frzLs_sound S.hp hfr hval
    have hls' : ls'.length = ls.length := by rw [← hval1.length, hval.length]
    have hB := H1.blk rr
    rw [hb] at hB
    obtain ⟨rv, us, h1, h2, h3, h4, h5, h6, h7⟩ := hB
    generalize hv : a.eval x = vx at hx
    cases hx with
    | elp _ _ _ _ ad n c h1' hi =>
      rw [h1] at h1'
      obtain rfl := pinV_inj (Option.some.inj h1')
      have hk1 := frz_hasKs hfit hfrz
      rw [← hls'] at hk1
      have hlive : hp'.getD rr .dead ≠ .dead := by rw [hb]; simp
      have hnofz : ∀ o', ¬ fz1 ad.block o' := fun o' ho => h7 ad.block o' rfl ho
      obtain ⟨cur, arr, et, had, hg, hs, us', m1, m2, m3⟩ := row_store (C := C) (t := t) h2 h3 h4 hi hk1 (by omega) (by omega) hval1 (repLs_one H1.one hval1 (fun l hl => (hfrz l hl).ne)) hnofz
      have hf : ∀ o', fz1 ad.block o' → cur.toList[o']? = arr.toList[o']? := fun o' ho => absurd ho (hnofz o')
      have S1 : Sim C.P w fz1 ρ Wr a { st with hp := hp' } := S.fzmono x1.1 H1
      have hbl : Bl (pinV (.slice (some ad) n c)) ad.block := bl_pinV.2 rfl
      exact ⟨.undef, _, undef, _, fz1, ρ, h, rep_undef, S1.put hlive h1 hbl (by simp) (fun k hk => setRow_other w ad.block k _ hk) (set_row_fz hg hf) ⟨_, us', h1, m1, m2, m3, h5, h6, h7⟩, (Mv.of_fz x1).trans (.setRow hg (H1.wr rr _ ad.block hlive h1 hbl) hf), .refl ρ, .inr ⟨hrun _ (by rw [hv]; exact hs), rfl⟩⟩
  · -- an element of a slice in a slice
    rename_i rr e' i j ofs e
    rw [e] at hx
    split at hst
    case h_2 => cases hst
    rename_i ls' hp' hfr
    split at hst
    case h_2 => cases hst
    rename_i tt et yss hb
    split at hst
    case isFalse => cases hst
    rename_i hfit
    obtain ⟨he, hfit⟩ := hfit
    subst he
    simp only [Option.some.injEq] at hst
    subst hst
    obtain ⟨fz1, x1, H1, hval1, hfrz, hlen1⟩ := frzLs_sound S.hp hfr hval
    have hls' : ls'.length = ls.length := by rw [← hval1.length, hval.length]
    have hB := H1.blk rr
    rw [hb] at hB
    obtain ⟨rv, us, h1, h2, h3, h4, h5, h6, h7, h8, h9, h10⟩ := hB
    generalize hv : a.eval x = vx at hx
    cases hx with
    | mel _ _ _ _ _ v' us0 ad n c h1' hi hj =>
      rw [h1] at h1'
      obtain ⟨rfl, rfl⟩ := pinM_inj (Option.some.inj h1')
      have hul := h2.1
      have hil : i < us.length := (List.getElem?_eq_some_iff.1 hi).1
      rw [Nat.mul_one] at hul
      have hy : yss[i]? = some (yss.getD i []) := by simp [List.getD, List.getElem?_eq_getElem (show i < yss.length by omega)]
      obtain ⟨cs, q1, q2, q3⟩ := h7 i _ _ hi hy
      have hk1 := frz_hasKs hfit hfrz
      rw [← hls'] at hk1
      have hlive : hp'.getD rr .dead ≠ .dead := by rw [hb]; simp
      have hbl : Bl (pinM rv us) ad.block := bl_pinM.2 (.inr ⟨_, List.mem_of_getElem? hi, rfl⟩)
      have hnofz : ∀ o', ¬ fz1 ad.block o' := fun o' ho => h8 ad.block o' hbl ho
      obtain ⟨cur, arr, et', had, hg, hs, us', m1, m2, m3⟩ := row_store (C := C) (t := t) q1 q2 q3 hj hk1 (by omega) (by omega) hval1 (repLs_one H1.one hval1 (fun l hl => (hfrz l hl).ne)) hnofz
      have hf : ∀ o', fz1 ad.block o' → cur.toList[o']? = arr.toList[o']? := fun o' ho => absurd ho (hnofz o')
      have hc := set_row_fz (fz := fz1) hg hf
      have S1 : Sim C.P w fz1 ρ Wr a { st with hp := hp' } := S.fzmono x1.1 H1
      have hmv : ∀ {t : TypeId} {z n : Nat} {v : Value} {us : List Value}, w.ownsRow 0 t z v n us → bk v ≠ some ad.block → (w.setRow ad.block arr).ownsRow 0 t z v n us :=
        fun ho hne => ownsRow_move ho fun g' hg' => setRow_other w ad.block g' _ (fun e => hne (e ▸ hg'))
      refine ⟨.undef, _, undef, _, fz1, ρ, h, rep_undef, S1.put hlive h1 hbl (by simp) (fun k hk => setRow_other w ad.block k _ hk) hc ⟨_, us, h1, by rw [List.length_set]; exact hmv h2 (h10 _ _ (List.mem_of_getElem? hi) rfl), h3, h4, h5, h6, fun i1 u zs hu hz => ?_, h8, h9, h10⟩, (Mv.of_fz x1).trans (.setRow hg (H1.wr rr _ ad.block hlive h1 hbl) hf), .refl ρ, .inr ⟨hrun _ (by rw [hv]; exact hs), rfl⟩⟩
      rw [List.getElem?_set] at hz
      by_cases e1 : i = i1
      · subst e1
        rw [hi] at hu
        cases hu
        simp only [if_true] at hz
        split at hz <;> simp at hz
        subst hz
        exact ⟨us', m1, m2, m3⟩
      · rw [if_neg e1] at hz
        obtain ⟨cs', n1, n2, n3⟩ := h7 i1 u zs hu hz
        refine ⟨cs', hmv n1 fun hb' => e1 (h9 i i1 _ u _ hi hu rfl hb'), n2.mono fun v l hl hv => hv.mono C.P hc (fun _ _ h => h) ?_, n3⟩
        obtain ⟨e, he, hle⟩ := List.mem_flatten.1 hl
        obtain ⟨kk, hk⟩ := HasKs.mem (n3 e he) l hle
        simp [hk.refs]
  · cases hst

end
end Go.Ab
namespace Go.Ab
section
variable {C : Cfg} {w w' : World} {fz fz' : Fz} {ρ : Rho} {Wr : Nat → Prop} {a : Act} {st : St}

theorem newRow_ok (S : Sim C.P w fz ρ Wr a st) (hw : ∀ k, w.heap.size ≤ k → Wr k) {o : Oper} {κ : D → St → R} {r : List L} {t : TypeId} {xs : List (List L)} {cells : Array Value} {cap : Nat} {us : List Value}
    (hr : (execOp a.eval o).run C.P w = .ok (.value (.slice (some ⟨w.heap.size, 0, none⟩) xs.length cap)) (w.alloc (.cells cells t)))
    (hcap : xs.length ≤ cap) (hm : cap ≤ maxLen) (hsz : cells.size = cap * (kinds C.P t).length) (hus : us = cells.toList.take (xs.length * (kinds C.P t).length))
    (hrep : RepLs (Rep C.P w fz ρ) us xs.flatten) (hconf : ∀ e ∈ xs, Conf C.P t e) (h0 : 0 < (kinds C.P t).length) (hs : sizeT C.P t = (kinds C.P t).length)
    (h : κ (.lf (.row st.hp.length)) { st with hp := st.hp ++ [.row t xs true] } = some r) : OpOk C w fz ρ Wr a o κ r := by
  have hold : ∀ k, k < w.heap.size → (w.alloc (.cells cells t)).heap[k]? = w.heap[k]? := fun k hk => heap_alloc_old w _ hk
  have hnf : ∀ o, ¬ fz w.heap.size o := fun o ho => absurd (S.hp.lt _ _ ho) (Nat.lt_irrefl _)
  refine ⟨_, _, .slice (some ⟨w.heap.size, 0, none⟩) xs.length cap, w.alloc (.cells cells t), fz, (fun i => if i = st.hp.length then some (.slice (some ⟨w.heap.size, 0, none⟩) xs.length cap) else ρ i), h, ?_, ?_, .alloc _ S.hp.lt, .add S.hp _, .inl hr⟩
  · show Rep _ _ _ _ _ _
    exact Rep.row _ _ _ (by simp) (.refl _)
  · refine S.add (by simp) hold rfl (fun g hg => ?_) ⟨_, us, by simp, ⟨?_, .inr ⟨w.heap.size, cap, cells, rfl, Nat.zero_le _, heap_alloc_new w _, hcap, hm, hsz, hus.symm⟩⟩, ?_, hconf, h0, hs, fun g o hg ho => ?_, fun h => by cases h⟩
    · have hg := hg.slice
      simp only [bk, Option.some.injEq] at hg; subst hg
      exact ⟨Nat.le_refl _, hw _ (Nat.le_refl _)⟩
    · rw [hrep.length, flatten_len fun e he => (hconf e he).length]
    · exact hrep.mono fun v l _ h => rep_ext (C := C) (st := st) S.hp hold h
    · simp only [bk, Option.some.injEq] at hg; subst hg
      exact absurd ho (hnf o)

theorem chunk_flatten {n : Nat} : ∀ (m : Nat) {ls : List L}, ls.length = m * n → ((List.range m).map fun i => (ls.drop (i * n)).take n).flatten = ls
  | 0, ls, h => by simp at h; simp [h]
  | m + 1, ls, h => by
    rw [List.range_succ_eq_map, List.map_cons, List.flatten_cons, List.map_map]
    have ih := chunk_flatten (n := n) m (ls := ls.drop n) (by rw [List.length_drop, h, Nat.add_mul]; omega)
    have : ((fun i => (ls.drop (i * n)).take n) ∘ Nat.succ) = fun i => ((ls.drop n).drop (i * n)).take n := by
      funext i
      simp only [Function.comp, List.drop_drop]
      congr 2
      rw [Nat.succ_mul]; omega
    rw [this, ih]
    simp [List.take_append_drop]

theorem fillL_row {n : Nat} : ∀ (cs : List (List L)) (k : Nat) (base : List L), (∀ c ∈ cs, c.length = n) → base.length = (k + cs.length) * n →
    fillL (fun i => some (i * n, n)) base ((List.range' k cs.length).zip cs) = some (base.take (k * n) ++ cs.flatten)
  | [], k, base, _, hb => by
    simp only [List.length_nil, Nat.add_zero] at hb
    simp [fillL, ← hb]
  | c :: cs, k, base, h, hb => by
    have hc := h c (by simp)
    simp only [List.length_cons] at hb
    simp only [List.length_cons, List.range'_succ, List.zip_cons_cons, fillL]
    have hle : k * n + n ≤ base.length := by
      rw [hb, ← Nat.succ_mul]; exact Nat.mul_le_mul_right _ (by omega)
    rw [if_pos ⟨hc, hle⟩]
    have hs : (splice (k * n) c base).length = (k + 1 + cs.length) * n := by
      rw [splice_len (by omega), hb]; congr 1; omega
    rw [fillL_row cs (k + 1) _ (fun x hx => h x (by simp [hx])) hs]
    congr 1
    have e1 : (splice (k * n) c base).take ((k + 1) * n) = base.take (k * n) ++ c := by
      unfold splice
      have hl : (base.take (k * n) ++ c).length = (k + 1) * n := by
        rw [List.length_append, List.length_take, hc, Nat.succ_mul]; omega
      rw [← hl, List.take_left]
    rw [e1]
    simp

theorem flatten_lenc {n : Nat} {cs : List (List L)} (h : ∀ c ∈ cs, c.length = n) : cs.flatten.length = cs.length * n := flatten_len h
theorem range_eq (n : Nat) : List.range n = List.range' 0 n := by rw [List.range_eq_range']

theorem rep_anys {n : Nat} {vs : List Value} (h : vs.length = n) : RepLs (Rep C.P w fz ρ) vs (List.replicate n .any) :=
  RepLs.of (by simp [h]) fun i v l _ hl => by
    rw [List.getElem?_replicate] at hl
    split at hl
    · cases hl; exact .any v
    · cases hl

theorem buildSlice_ok {G : Req → R} (S : Sim C.P w fz ρ Wr a st) (hw : ∀ k, w.heap.size ≤ k → Wr k) {o : Oper} {κ : D → St → R} {r : List L} {t : TypeId} {len : Nat} {parts : Array (Nat × Operand)}
    (hop : o.op = .buildSlice t len parts) (h : effA C G o st κ = some r) : OpOk C w fz ρ Wr a o κ r := by
  simp only [effA, hop] at h
  split at h
  case h_2 => cases h
  rename_i e cs he hcs
  split at h
  case h_2 => cases h
  rename_i ls hp' hfr
  split at h
  case isFalse => cases h
  rename_i hc
  obtain ⟨hidx, hall, hsz, h0, hlim, hzero⟩ := hc
  split at h
  case isFalse => cases h
  rename_i hfit
  have hu := elemT_under he
  obtain ⟨hcl, hcget⟩ := cellsAll_get hcs
  have hlen : cs.length = len := by
    have := congrArg List.length hidx
    simp at this hcl
    omega
  have hall' : ∀ c ∈ cs, c.length = (kinds C.P e).length := fun c hc => by
    have := List.all_eq_true.1 hall c hc
    simpa using this
  obtain ⟨zl, hzl⟩ := Option.isSome_iff_exists.1 hzero
  obtain ⟨i, z, hi, hiz, hzr, hzt⟩ := zeroOf_sound (w := w) (fz := fz) (ρ := ρ) hzl
  have hisz : i.size = (kinds C.P e).length := by rw [← hsz]; simp [sizeT, hi]
  -- the cells
  have hparts : ((parts.map fun (i, x) => (i, a.eval x)).toList).length = ((List.range' 0 cs.length).zip cs).length ∧
      ∀ (i : Nat) (p : Nat × List L) (q : Nat × Value), ((List.range' 0 cs.length).zip cs)[i]? = some p → ((parts.map fun (i, x) => (i, a.eval x)).toList)[i]? = some q →
        q.1 = p.1 ∧ RepLs (Rep C.P w fz ρ) q.2.cells.toList p.2 := by
    refine ⟨by simp at hcl ⊢; omega, fun i p q h1 h2 => ?_⟩
    simp only [Array.toList_map, List.getElem?_map, Option.map_eq_some_iff] at h2
    obtain ⟨pr, h3, rfl⟩ := h2
    rw [List.getElem?_zip_eq_some] at h1
    obtain ⟨h4, h5⟩ := h1
    have h6 : (parts.toList.map (·.1))[i]? = some pr.1 := by simp [h3]
    rw [hidx, ← hlen, range_eq, h4] at h6
    refine ⟨by simpa using h6.symm, ?_⟩
    obtain ⟨d', h7, h8⟩ := hcget i _ h5
    simp only [List.getElem?_map, h3, Option.map_some, Option.some.injEq] at h7
    exact cells_sound S.hp.one (S.ev pr.2) (h7 ▸ h8)
  have hfill := fillL_row cs 0 (List.replicate (cs.length * (kinds C.P e).length) .any) hall' (by simp)
  simp only [Nat.zero_mul, List.take_zero, List.nil_append] at hfill
  -- what the machine fills
  have hbase : ∀ zc : Array Value, ((Array.range (len * (kinds C.P e).length)).map (zc[· % zc.size]!)).toList.length = cs.length * (kinds C.P e).length := by intro zc; simp [hlen]
  have hrow : ∀ zc : Array Value, ∃ cells, Instr.fill (fun i => some (i * (kinds C.P e).length, (kinds C.P e).length)) ((Array.range (len * (kinds C.P e).length)).map (zc[· % zc.size]!)) (parts.map fun (i, x) => (i, a.eval x)).toList = some cells ∧
      RepLs (Rep C.P w fz ρ) cells.toList cs.flatten := fun zc => fill_sound (rep_anys (hbase zc)) hparts.1 hparts.2 hfill
  obtain ⟨cells, hcells, hcrep⟩ := hrow (if len * (kinds C.P e).length = 0 then #[] else z.cells)
  obtain ⟨fz1, x1, H1, hrep1, hfrz, hl1⟩ := frzLs_sound S.hp hfr hcrep
  have hlsl : ls.length = len * (kinds C.P e).length := by
    rw [← hrep1.length, hcrep.length, flatten_lenc hall', hlen]
  have hcsz : cells.size = len * (kinds C.P e).length := by rw [← hlsl, ← hrep1.length]; simp
  have S1 : Sim C.P w fz1 ρ Wr a { st with hp := hp' } := S.fzmono x1.1 H1
  have hels : ((List.range len).map fun i => (ls.drop (i * (kinds C.P e).length)).take (kinds C.P e).length).flatten = ls := chunk_flatten len hlsl
  have hrun : (execOp a.eval o).run C.P w = .ok (.value (.slice (some ⟨w.heap.size, 0, none⟩) len len)) (w.alloc (.cells cells e)) := by
    have hlim' : ¬ (len * (kinds C.P e).length > 2 ^ 24) := by omega
    have hso := run_sizeOf' (P := C.P) w (t := e) (by omega)
    rw [hsz] at hso
    have hzv : (zeroValue e).run C.P w = .ok z w := by simp [zeroValue, typeInfo, hi, hiz]
    simp only [execOp, hop, Instr.buildSlice, Sem.run_bind, run_underlying hu, Result.andThen_ok, hso, if_neg hlim']
    by_cases hz0 : len * (kinds C.P e).length = 0
    · rw [if_pos hz0] at hcells
      simp only [if_pos hz0, Sem.run_pure, Result.andThen_ok, hcells, newRow, Sem.run_bind, run_newObj]
      rfl
    · rw [if_neg hz0] at hcells
      simp only [if_neg hz0, Sem.run_bind, hzv, Sem.run_pure, Result.andThen_ok, hcells, newRow, run_newObj]
      rfl
  have hlm : len ≤ maxLen := by
    have h24 : len * 1 ≤ len * (kinds C.P e).length := Nat.mul_le_mul_left _ h0
    simp only [maxLen]; omega
  have := newRow_ok (C := C) S1 hw (κ := κ) (r := r) (t := e) (xs := (List.range len).map fun i => (ls.drop (i * (kinds C.P e).length)).take (kinds C.P e).length) (cells := cells) (cap := len) (us := cells.toList)
    (by simpa using hrun) (by simp) hlm hcsz (by rw [List.length_map, List.length_range, List.take_of_length_le]; simp [hcsz]) (by rw [hels]; exact hrep1)
    (fun el hel => by
      have hf := List.all_eq_true.1 hfit el hel
      refine frz_hasKs hf fun l hl => hfrz l ?_
      obtain ⟨i, _, rfl⟩ := List.mem_map.1 hel
      exact List.mem_of_mem_drop (List.mem_of_mem_take hl)) h0 hsz h
  obtain ⟨d, st', v, w2, fz2, ρ2, k1, k2, k3, k4, k6, k5⟩ := this
  exact ⟨d, st', v, w2, fz2, ρ2, k1, k2, k3, (Mv.of_fz x1).trans k4, k6, k5⟩

theorem frz_zero : ∀ {ks : List K} {zs : List Value} {ls ls' : List L} {hp hp' : List B}, zeroLs ks zs = some ls → frzLs hp ls = some (ls', hp') →
    RepLs (Rep C.P w fz ρ) zs ls' ∧ (∀ l ∈ ls', Frz l)
  | [], [], ls, ls', hp, hp', h, hf => by
    simp only [zeroLs, Option.some.injEq] at h
    subst h
    simp only [frzLs, Option.some.injEq, Prod.mk.injEq] at hf
    obtain ⟨rfl, rfl⟩ := hf
    exact ⟨trivial, by simp⟩
  | [], _ :: _, _, _, _, _, h, _ => by simp [zeroLs] at h
  | _ :: _, [], _, _, _, _, h, _ => by simp [zeroLs] at h
  | k :: ks, z :: zs, ls, ls', hp, hp', h, hf => by
    simp only [zeroLs] at h
    split at h
    · rename_i l rest h1 h2
      simp only [Option.some.injEq] at h
      subst h
      obtain ⟨hr, _⟩ := zero_sound (P := C.P) (w := w) (fz := fz) (ρ := ρ) h1
      simp only [frzLs] at hf
      split at hf
      · rename_i l1 hp1 e1
        split at hf
        · rename_i ls2 hp2 e2
          simp only [Option.some.injEq, Prod.mk.injEq] at hf
          obtain ⟨rfl, rfl⟩ := hf
          obtain ⟨r2, f2⟩ := frz_zero h2 e2
          have : Rep C.P w fz ρ z l1 ∧ Frz l1 := by
            cases l <;> simp only [frzL, Option.some.injEq, Prod.mk.injEq] at e1 <;> first
              | (cases e1; done)
              | (obtain ⟨rfl, _⟩ := e1; exact ⟨hr, trivial⟩)
              | (obtain ⟨rfl, _⟩ := e1
                 cases hr
                 exact ⟨.lst none 0 0 _ [] (fun _ => undef) ⟨0, 0, none⟩ rfl (Nat.le_refl _) (by simp) (by simp) (by simp) (by simp) (by simp), trivial⟩)
              | (exfalso
                 unfold K.zero at h1
                 split at h1 <;> first | (cases h1; done) | (split at h1 <;> cases h1))
          exact ⟨⟨this.1, r2⟩, by simpa using ⟨this.2, f2⟩⟩
        · cases hf
      · cases hf
    · cases h

theorem makeMat_ok (S : Sim C.P w fz ρ Wr a st) (hw : ∀ k, w.heap.size ≤ k → Wr k) {o : Oper} {κ : D → St → R} {r : List L} {t e e' : TypeId} {l c : Operand} {n m : Int} {tt : TypeId}
    (hop : o.op = .makeSlice t l c) (he : elemT C t = some e) (hl : st.leaf l = .int .i64 n) (hc : st.leaf c = .int .i64 m) (he' : elemT C e = some e') (hz : zeroOf C.P e = some [.nils tt])
    (hsz : sizeT C.P e = 1) (hse : sizeT C.P e' = (kinds C.P e').length) (h0 : 0 < (kinds C.P e').length)
    (hg : (leI 0 n && leI n m && (leI (m * bytesT C.P e) 140737488355328 && leI m 140737488355328)) = true)
    (h : κ (.lf (.mat st.hp.length)) { st with hp := st.hp ++ [.mat e e' (List.replicate n.toNat [])] } = some r) : OpOk C w fz ρ Wr a o κ r := by
  simp only [Bool.and_eq_true, leI_eq, decide_eq_true_eq] at hg
  obtain ⟨⟨h1, h2⟩, h3, h4⟩ := hg
  have hu := elemT_under he
  obtain ⟨i, zv, hi, hiz, hzr, hzt⟩ := zeroOf_sound (w := w) (fz := fz) (ρ := fun _ => none) hz
  have hisz : i.size = 1 := by rw [← hsz]; simp [sizeT, hi]
  have hbt : i.bytes = bytesT C.P e := by simp [bytesT, hi]
  have hk : kinds C.P e = [.sl e'] := by simp [kinds, kindsN, elemT_under he']
  have hm63 : m ≤ 9223372036854775807 := by omega
  have hrun := run_make (P := C.P) w t e i zv hu hi hiz .i64 .i64 n m h1 h2 (by rw [hbt, Int.mul_comm]; omega) hm63
  have hzc : zv.cells = #[.slice none 0 0] := by
    apply Array.toList_inj.1
    generalize zv.cells.toList = zs at hzr
    match zs, hzr with
    | [z0], hzr =>
      have := hzr.1
      cases this
      rfl
  let v : Value := .slice (some ⟨w.heap.size, 0, none⟩) n.toNat m.toNat
  let us : List Value := List.replicate n.toNat (.slice none 0 0)
  have hold : ∀ k, k < w.heap.size → (w.alloc (.cells (madeCells zv.cells (m.toNat * i.size)) e)).heap[k]? = w.heap[k]? := fun k hk => heap_alloc_old w _ hk
  have hnf : ∀ o, ¬ fz w.heap.size o := fun o ho => absurd (S.hp.lt _ _ ho) (Nat.lt_irrefl _)
  have hbl : ∀ g, Bl (pinM v us) g → g = w.heap.size := by
    intro g hg
    rcases bl_pinM.1 hg with hg | ⟨u, hu, hg⟩
    · simp only [v, bk, Option.some.injEq] at hg; exact hg.symm
    · rw [List.eq_of_mem_replicate hu] at hg; cases hg
  have hcells : (madeCells zv.cells (m.toNat * i.size)).toList = List.replicate m.toNat (.slice none 0 0) := by
    apply List.ext_getElem?
    intro j
    rw [hisz, Nat.mul_one]
    simp only [madeCells, hzc]
    rw [List.getElem?_replicate]
    by_cases hj : j < m.toNat
    · simp [hj, Nat.mod_one]
    · simp [hj]
  refine ⟨_, _, v, w.alloc (.cells (madeCells zv.cells (m.toNat * i.size)) e), fz, (fun i => if i = st.hp.length then some (pinM v us) else ρ i), h, ?_, ?_, .alloc _ S.hp.lt, .add S.hp _, .inl ?_⟩
  · show Rep _ _ _ _ _ _
    exact Rep.mat _ _ _ _ us (by simp [v])
  · refine S.add (by simp) hold rfl (fun g hg => ?_) ⟨v, us, by simp, ⟨by simp [us], .inr ⟨w.heap.size, m.toNat, _, by simp [v], Nat.zero_le _, heap_alloc_new w _, by simp; omega, by simp only [maxLen]; omega, by rw [← Array.length_toList, hcells]; simp, ?_⟩⟩, hk, hsz, h0, hse, ?_, fun g o hg ho => ?_, ?_, ?_⟩
    · have := hbl g hg
      exact ⟨by omega, hw _ (by omega)⟩
    · rw [hcells]
      simp only [us, List.take_replicate, List.length_replicate, Nat.mul_one]
      congr 1; omega
    · intro i1 u ys hu hy
      have hu := List.eq_of_mem_replicate (List.mem_of_getElem? hu)
      have hy := List.eq_of_mem_replicate (List.mem_of_getElem? hy)
      subst hu; subst hy
      exact ⟨[], World.ownsRow_nil _ 0 e' _, trivial, by simp⟩
    · rw [hbl g hg] at ho
      exact hnf o ho
    · intro i1 j1 u u' g hu _ hb
      rw [List.eq_of_mem_replicate (List.mem_of_getElem? hu)] at hb; cases hb
    · intro u g hu hb
      rw [List.eq_of_mem_replicate hu] at hb; cases hb
  · have e1 := rep_int (hl ▸ S.leaf l)
    have e2 := rep_int (hc ▸ S.leaf c)
    simp only [execOp, hop, e1, e2, Sem.run_bind, hrun]
    rfl

theorem makeSlice_ok {G : Req → R} (S : Sim C.P w fz ρ Wr a st) (hw : ∀ k, w.heap.size ≤ k → Wr k) {o : Oper} {κ : D → St → R} {r : List L} {t : TypeId} {l c : Operand}
    (hop : o.op = .makeSlice t l c) (h : effA C G o st κ = some r) : OpOk C w fz ρ Wr a o κ r := by
  simp only [effA, hop] at h
  split at h
  case h_2 => cases h
  rename_i e n m he hl hc
  split at h
  · split at h
    case h_2 => cases h
    rename_i e' tt he' hz
    split at h
    case isFalse => cases h
    rename_i hcond
    have hg : (leI 0 n && leI n m && (leI (m * bytesT C.P e) 140737488355328 && leI m 140737488355328)) = true := by
      cases hb : (leI 0 n && leI n m && (leI (m * bytesT C.P e) 140737488355328 && leI m 140737488355328)) with
      | true => rfl
      | false => rw [hb] at h; cases h
    rw [hg] at h
    exact makeMat_ok S hw hop he hl hc he' hz hcond.1 hcond.2.1 hcond.2.2 hg h
  split at h
  case h_2 => cases h
  rename_i z hz
  split at h
  case h_2 => cases h
  rename_i z' hpz hfz
  split at h
  case isFalse => cases h
  rename_i hcond
  obtain ⟨hfit, hsz, h0⟩ := hcond
  have hg : (leI 0 n && leI n m && (leI (m * bytesT C.P e) 140737488355328 && leI m 140737488355328)) = true := by
    cases hb : (leI 0 n && leI n m && (leI (m * bytesT C.P e) 140737488355328 && leI m 140737488355328)) with
    | true => rfl
    | false => rw [hb] at h; cases h
  rw [hg] at h
  simp only [cond_true] at h
  simp only [Bool.and_eq_true, leI_eq, decide_eq_true_eq] at hg
  obtain ⟨⟨h1, h2⟩, h3, h4⟩ := hg
  have hu := elemT_under he
  obtain ⟨i, zv, hi, hiz, hzr, hzt⟩ := zeroOf_sound (w := w) (fz := fz) (ρ := fun _ => none) hz
  -- the zero element, told
  have hz2 : zeroLs (kinds C.P e) zv.cells.toList = some z := by
    have := hz
    simp only [zeroOf, hi, hiz] at this
    exact this
  obtain ⟨hz1, hfrz⟩ := frz_zero (C := C) (w := w) (fz := fz) (ρ := ρ) hz2 hfz
  have hconf : Conf C.P e z' := frz_hasKs hfit hfrz
  have hzl : z'.length = (kinds C.P e).length := hconf.length
  have hisz : i.size = (kinds C.P e).length := by rw [← hzl, ← hsz]; simp [sizeT, hi]
  have hbt : i.bytes = bytesT C.P e := by simp [bytesT, hi]
  have hm63 : m ≤ 9223372036854775807 := by omega
  have hrun := run_make (P := C.P) w t e i zv hu hi hiz .i64 .i64 n m h1 h2 (by rw [hbt, Int.mul_comm]; omega) hm63
  have hzc : zv.cells.size = (kinds C.P e).length := by rw [← hzl, ← hz1.length]; simp
  refine newRow_ok (C := C) S hw (κ := κ) (r := r) (t := e) (xs := List.replicate n.toNat z') (cells := madeCells zv.cells (m.toNat * i.size)) (cap := m.toNat)
    (us := (madeCells zv.cells (m.toNat * i.size)).toList.take (n.toNat * (kinds C.P e).length)) ?_ (by simp; omega) (by simp only [maxLen]; omega) (by rw [size_madeCells, hisz]) (by simp) ?_ (fun el hel => by rw [List.eq_of_mem_replicate hel]; exact hconf) (by omega) (by omega) h
  · have e1 := rep_int (hl ▸ S.leaf l)
    have e2 := rep_int (hc ▸ S.leaf c)
    simp only [execOp, hop, e1, e2, Sem.run_bind, hrun, List.length_replicate]
    rfl
  · have hall : ∀ x ∈ List.replicate n.toNat z', x.length = (kinds C.P e).length := fun x hx => by rw [List.eq_of_mem_replicate hx]; exact hzl
    have hfl := flatten_len hall
    rw [List.length_replicate] at hfl
    have hmk : (madeCells zv.cells (m.toNat * i.size)).toList.length = m.toNat * (kinds C.P e).length := by
      rw [Array.length_toList, size_madeCells, hisz]
    have hnm : n.toNat * (kinds C.P e).length ≤ m.toNat * (kinds C.P e).length := Nat.mul_le_mul_right _ (by omega)
    refine RepLs.of (by rw [List.length_take, hmk, hfl]; omega) fun j v lf hv hlf => ?_
    have hj : j < n.toNat * (kinds C.P e).length := by rw [← hfl]; exact (List.getElem?_eq_some_iff.1 hlf).1
    have hk0 : 0 < (kinds C.P e).length := by omega
    have hdm : j / (kinds C.P e).length * (kinds C.P e).length + j % (kinds C.P e).length = j := Nat.div_add_mod' j _
    have hq : j / (kinds C.P e).length < n.toNat := by
      rw [Nat.div_lt_iff_lt_mul hk0]; exact hj
    have hmod := Nat.mod_lt j hk0
    have h9 := flatten_get hall (j / (kinds C.P e).length) (j % (kinds C.P e).length) hmod (by simpa using hq)
    rw [hdm, hlf] at h9
    have h10 : (List.replicate n.toNat z').getD (j / (kinds C.P e).length) [] = z' := by
      simp [List.getD, hq]
    rw [h10] at h9
    obtain ⟨u, hu', hr'⟩ := hz1.get _ lf h9.symm
    rw [List.getElem?_take, if_pos hj] at hv
    have hjm : j < m.toNat * i.size := by rw [hisz]; omega
    have h11 : (madeCells zv.cells (m.toNat * i.size)).toList[j]? = some (zv.cells[j % zv.cells.size]!) := by
      simp [madeCells, hjm]
    rw [h11] at hv
    simp only [Option.some.injEq] at hv
    rw [hzc] at hv
    have h12 : zv.cells[j % (kinds C.P e).length]! = u := by
      have h13 : zv.cells[j % (kinds C.P e).length]? = some u := by simpa using hu'
      simp [getElem!_def, h13]
    rw [← hv, h12]
    exact hr'

theorem mapEs_kv : ∀ (es : List (ByteArray × Int)) (n : Nat), ((mapEs n es).map fun e => (e.key, e.val)) = es.map fun p => (Value.string p.1, Value.int .i64 p.2)
  | [], _ => rfl
  | p :: es, n => by rw [mapEs, List.map_cons, List.map_cons, mapEs_kv es (n + 1)]
theorem range_ok {G : Req → R} (S : Sim C.P w fz ρ Wr a st) (hw : ∀ k, w.heap.size ≤ k → Wr k) {o : Oper} {κ : D → St → R} {r : List L} {t : TypeId} {x : Operand}
    (hop : o.op = .range t x) (h : effA C G o st κ = some r) : OpOk C w fz ρ Wr a o κ r := by
  simp only [effA, hop] at h
  split at h
  case h_3 => cases h
  case h_2 =>
    rename_i kt et es hu e
    have hx := S.leaf x
    rw [e] at hx
    generalize hv : a.eval x = vx at hx
    cases hx with
    | mp m _ q1 q2 =>
      have hlt := (Array.getElem?_eq_some_iff.1 q1).1
      have hold : ∀ k, k < w.heap.size → (w.alloc (.mapIter (some m) es.length #[] es.length)).heap[k]? = w.heap[k]? := fun k hk => heap_alloc_old w _ hk
      have hnf : ∀ o, ¬ fz w.heap.size o := fun o ho => absurd (S.hp.lt _ _ ho) (Nat.lt_irrefl _)
      refine ⟨_, _, .pointer (some ⟨w.heap.size, 0, none⟩), w.alloc (.mapIter (some m) es.length #[] es.length), fz, (fun i => if i = st.hp.length then some (.pointer (some ⟨w.heap.size, 0, none⟩)) else ρ i), h, ?_, ?_, .alloc _ S.hp.lt, .add S.hp _, .inl ?_⟩
      · show Rep _ _ _ _ _ _
        have := Rep.ptr (P := C.P) (w := w.alloc (.mapIter (some m) es.length #[] es.length)) (fz := fz) (ρ := fun i => if i = st.hp.length then some (.pointer (some ⟨w.heap.size, 0, none⟩)) else ρ i) st.hp.length 0 ⟨w.heap.size, 0, none⟩ (by simp)
        simpa [Addr.add] using this
      · refine S.add (by simp) hold rfl (fun g hg => ?_) ⟨w.heap.size, m, #[], by simp, heap_alloc_new w _, hnf, (hold m hlt).trans q1, q2, ?_, fun p hp => (by cases hp)⟩
        · have hg := hg.pointer
          simp only [bk, Option.some.injEq] at hg; subst hg
          exact ⟨Nat.le_refl _, hw _ (Nat.le_refl _)⟩
        · rw [List.filter_eq_self.2 (fun e _ => by simp)]
          exact mapEs_kv es 0
      · simp [execOp, hop, hv, Instr.range, run_underlying hu, MapKept.run_getObj_map q1]
  rename_i s hu e
  have hx := S.leaf x
  rw [e] at hx
  have hx' := rep_str hx
  have hold : ∀ k, k < w.heap.size → (w.alloc (.stringIter s 0)).heap[k]? = w.heap[k]? := fun k hk => heap_alloc_old w _ hk
  have hnf : ∀ o, ¬ fz w.heap.size o := fun o ho => absurd (S.hp.lt _ _ ho) (Nat.lt_irrefl _)
  refine ⟨_, _, .pointer (some ⟨w.heap.size, 0, none⟩), w.alloc (.stringIter s 0), fz, (fun i => if i = st.hp.length then some (.pointer (some ⟨w.heap.size, 0, none⟩)) else ρ i), h, ?_, ?_, .alloc _ S.hp.lt, .add S.hp _, .inl ?_⟩
  · show Rep _ _ _ _ _ _
    have := Rep.ptr (P := C.P) (w := w.alloc (.stringIter s 0)) (fz := fz) (ρ := fun i => if i = st.hp.length then some (.pointer (some ⟨w.heap.size, 0, none⟩)) else ρ i) st.hp.length 0 ⟨w.heap.size, 0, none⟩ (by simp)
    simpa [Addr.add] using this
  · refine S.add (by simp) hold rfl (fun g hg => ?_) ⟨w.heap.size, by simp, heap_alloc_new w _, hnf⟩
    have hg := hg.pointer
    simp only [bk, Option.some.injEq] at hg; subst hg
    exact ⟨Nat.le_refl _, hw _ (Nat.le_refl _)⟩
  · simp [execOp, hop, hx', Instr.range, run_underlying hu]

end
end Go.Ab
namespace Go.Ab
open Go.Lib
section
variable {P : Program} {w : World}

theorem ownBlock_bk {e : TypeId} {size n base : Nat} {v : Value} {us : List Value} (h : w.ownsRow base e size v n us) : v.ownBlock = bk v := by
  rcases h.2 with ⟨rfl, _⟩ | ⟨g, cap, cur, rfl, _⟩ <;> rfl

structure App (w w' : World) (v v' : Value) (us : List Value) : Prop where
  os : w'.os = w.os
  tape : w'.tape = w.tape
  output : w'.output = w.output
  size : w.heap.size ≤ w'.heap.size
  other : ∀ k, k < w.heap.size → bk v ≠ some k → w'.heap[k]? = w.heap[k]?
  pre : ∀ g j u, bk v = some g → us[j]? = some u → w'.cell? ⟨g, j, none⟩ = some u
  new : bk v' = bk v ∨ ∀ g, bk v' = some g → w.heap.size ≤ g

theorem App.refl {v : Value} {us : List Value} {e : TypeId} {size n base : Nat} (h : w.ownsRow base e size v n us) : App w w v v us :=
  ⟨rfl, rfl, rfl, Nat.le_refl _, fun _ _ _ => rfl, fun g j u hg hu => by
    have := h.cells (g := g) (by rw [ownBlock_bk h]; exact hg) j u hu
    rw [add_zero'] at this
    exact this, .inl rfl⟩
theorem App.new_row {o : Obj} {v v' : Value} {us : List Value} {e : TypeId} {size n base : Nat} (h : w.ownsRow base e size v n us) (hv : bk v' = some w.heap.size) : App w (w.drew.alloc o) v v' us :=
  ⟨rfl, rfl, rfl, by simp, fun k hk _ => heap_alloc_old w.drew _ hk, fun g j u hg hu => by
    have h1 := h.cells (g := g) (by rw [ownBlock_bk h]; exact hg) j u hu
    rw [add_zero'] at h1
    rw [World.cell?_of_block (w := w) (a := ⟨g, j, none⟩) (heap_alloc_old w.drew _ (World.block_lt_of_cell? w _ h1))]
    exact h1, .inr fun g hg => by rw [hv] at hg; cases hg; exact Nat.le_refl _⟩
theorem App.room {g : Nat} {cur arr : Array Value} {v v' : Value} {us : List Value} {e : TypeId} (hv : bk v = some g) (hv' : bk v' = some g) (hg : w.heap[g]? = some (.cells cur e (0, 0)))
    (hp : ∀ (j : Nat) u, us[j]? = some u → arr.toList[j]? = some u) : App w (w.setRow g arr) v v' us :=
  ⟨rfl, rfl, rfl, by simp, fun k _ hk => setRow_other w g k arr (fun e => hk (by rw [e]; exact hv)), fun g' j u hg' hu => by
    rw [hv] at hg'; cases hg'
    rw [cell_box (setRow_heap w g cur arr e (0, 0) hg)]
    exact hp j u hu, .inl (hv'.trans hv.symm)⟩

theorem run_append_zero {t t' ty e : TypeId} {i : TypeInfo} {size n base : Nat} {v u : Value} {us : List Value} {A : Option Addr} {c : Nat} (ht : P.underlying t = some (.slice e)) (hi : P.info? e = some i)
    (hown : w.ownsRow base e size u n us) (hlk : Like v u) (ht' : ∃ e', P.underlying t' = some (.slice e')) :
    (Builtin.append_ #[t, t'] ty #[v, .slice A 0 c]).run P w = .ok v w := by
  obtain ⟨e', ht'⟩ := ht'
  have hf : (Builtin.firstCells i.size 0 (.slice A 0 c)).run P w = .ok #[] w := by
    cases A <;> simp [Builtin.firstCells, loadCells, loadCellsFrom]
  rcases hlk.own hown with rfl | ⟨rfl, hn, hus, a, rfl⟩
  · rcases hown.2 with ⟨rfl, rfl⟩ | ⟨g, cap, cur, rfl, _, _, hnc, _⟩
    · simp [Builtin.append_, run_underlying ht, run_underlying ht', sizeOf, typeInfo, hi, Builtin.lenOf, hf]
    · simp [Builtin.append_, run_underlying ht, run_underlying ht', sizeOf, typeInfo, hi, Builtin.lenOf, hf, hnc, storeCells]
  · simp [Builtin.append_, run_underlying ht, run_underlying ht', sizeOf, typeInfo, hi, Builtin.lenOf, hf, storeCells]

theorem run_append_bare {t ty e : TypeId} {i : TypeInfo} {z : Value} {ad a : Addr} {m c : Nat} {news : List Value} (ht : P.underlying t = some (.slice e)) (hi : P.info? e = some i)
    (hz : i.zero = some z) (hl : news.length = m * i.size) (hnews : ∀ j u, news[j]? = some u → w.cell? (ad.add j) = some u) (hm : 0 < m) (h63 : m ≤ 9223372036854775807) (hbytes : m * i.bytes ≤ 281474976710656) :
    (Builtin.append_ #[t, t] ty #[.slice (some a) 0 0, .slice (some ad) m c]).run P w = (Builtin.append_ #[t, t] ty #[.slice none 0 0, .slice (some ad) m c]).run P w := by
  rw [run_append_nil (P := P) w t ty e i z ht hi hz ad m c news hl hnews hm (by omega) hbytes,
    run_append_grow (P := P) w t ty e i z ht hi hz a 0 0 [] (by simp) (by simp) ad m c news hl hnews (by omega) (by omega) (by rw [Nat.zero_add, nextslicecap_zero hm]; exact hbytes)]
  simp
theorem run_append_bare_string {t u ty e : TypeId} {i : TypeInfo} {z : Value} {a : Addr} {s : ByteArray} (ht : P.underlying t = some (.slice e)) (hu : P.underlying u = some .string) (hi : P.info? e = some i)
    (hz : i.zero = some z) (hm : 0 < s.size) (h63 : s.size ≤ 9223372036854775807) (hbytes : s.size * i.bytes ≤ 281474976710656) :
    (Builtin.append_ #[t, u] ty #[.slice (some a) 0 0, .string s]).run P w = (Builtin.append_ #[t, u] ty #[.slice none 0 0, .string s]).run P w := by
  rw [run_append_nil_string (P := P) w t u ty e i z ht hu hi hz s hm (by omega) hbytes,
    run_append_grow_string (P := P) w t u ty e i z ht hu hi hz a 0 0 [] (by simp) (by simp) s (by omega) (by omega) (by rw [Nat.zero_add, nextslicecap_zero hm]; exact hbytes)]
  have e1 : (strCells s).toArray = s.data.map (fun b => Value.int .u8 b.toNat) := by
    apply Array.toList_inj.1
    simp [strCells]
  simp [e1]

theorem take_pre {cur news xs : List Value} {k : Nat} (h : cur.take k = xs) (_ : k ≤ cur.length) : ∀ (j : Nat) u, xs[j]? = some u → (cur.take k ++ news ++ cur.drop (k + news.length))[j]? = some u := by
  intro j u hu
  have hj : j < xs.length := (List.getElem?_eq_some_iff.1 hu).1
  rw [h, List.append_assoc, List.getElem?_append_left hj]
  exact hu

theorem app_slice {t ty e : TypeId} {i : TypeInfo} {z : Value} {size n : Nat} {v : Value} {us news : List Value} {ad : Addr} {m c : Nat} (ht : P.underlying t = some (.slice e)) (hi : P.info? e = some i)
    (hz : i.zero = some z) (hsize : i.size = size) (hzs : z.cells.size = size) (hsz : 0 < size) (hown : w.ownsRow 0 e size v n us)
    (hl : news.length = m * size) (hnews : ∀ j u, news[j]? = some u → w.cell? (ad.add j) = some u) (h1 : ∀ u ∈ news, u.oneCell' = true)
    (h63 : n + m ≤ maxLen) (hbytes : (n + m) * i.bytes ≤ 140737488355328) :
    ∃ v' w', (Builtin.append_ #[t, t] ty #[v, .slice (some ad) m c]).run P w = .ok v' w' ∧ w'.ownsRow 0 e size v' (n + m) (us ++ news) ∧ App w w' v v' us := by
  obtain ⟨v', w', hr, ho, hg, hnil⟩ := run_append_own (P := P) w 0 t ty e i z size i.bytes ht hi hz hsize rfl hzs hsz v n us hown ad m c news hl hnews h1 h63 hbytes (Nat.zero_le _)
  refine ⟨v', w', hr, ho, ?_⟩
  have hsmall : n + m ≤ 9223372036854775807 := by simp only [maxLen] at h63; omega
  rcases hown.2 with ⟨hv, hn⟩ | ⟨g, cap, cur, hv, hbg, hgg, hnc, hcm, hcs, htake⟩
  · by_cases hm : m = 0
    · have hz0 := run_append_zero (A := some ad) (c := c) (ty := ty) ht hi hown (.refl _) ⟨e, ht⟩
      rw [hm] at hr
      rw [hz0] at hr
      cases hr
      exact .refl hown
    · subst hv
      subst hn
      have h2 := run_append_nil (P := P) w t ty e i z ht hi hz ad m c news (by rw [hsize]; exact hl) hnews (by omega) (by omega) (by rw [Nat.zero_add] at hbytes; omega)
      rw [h2] at hr
      cases hr
      exact .new_row hown rfl
  · subst hv
    by_cases hroom : n + m ≤ cap
    · have hfit : n * i.size + news.length ≤ cur.size := by rw [hl, hcs, hsize, ← Nat.add_mul]; exact Nat.mul_le_mul_right _ hroom
      have h2 := run_append_room (P := P) w t ty e i ht hi g n cap cur hgg ad m c news (by rw [hsize]; exact hl) hnews h1 hroom hfit
      rw [h2] at hr
      cases hr
      refine .room rfl rfl hgg ?_
      intro j u hu
      have := take_pre (news := news) htake (by simp; rw [← hsize]; omega) j u hu
      rw [hsize]
      simpa using this
    · have holds : ∀ j u, us[j]? = some u → w.cell? ((⟨g, 0, none⟩ : Addr).add j) = some u := hown.cells (g := g) rfl
      have h2 := run_append_grow (P := P) w t ty e i z ht hi hz ⟨g, 0, none⟩ n cap us (by rw [hsize]; exact hown.1) holds ad m c news (by rw [hsize]; exact hl) hnews (by omega) (by omega) (growslice_fits (by omega) hbytes)
      rw [h2] at hr
      cases hr
      exact .new_row hown rfl

theorem app_str {t u ty e : TypeId} {i : TypeInfo} {n : Nat} {v : Value} {us : List Value} {s : ByteArray} (ht : P.underlying t = some (.slice e)) (hu : P.underlying u = some .string) (hi : P.info? e = some i)
    (hz : i.zero = some (.int .u8 0)) (hsize : i.size = 1) (hby : i.bytes = 1) (hown : w.ownsRow 0 e 1 v n us)
    (h63 : n + s.size ≤ maxLen) (hbytes : n + s.size ≤ 140737488355328) :
    ∃ v' w', (Builtin.append_ #[t, u] ty #[v, .string s]).run P w = .ok v' w' ∧ w'.ownsRow 0 e 1 v' (n + s.size) (us ++ strCells s) ∧ App w w' v v' us := by
  obtain ⟨v', w', hr, ho, hg, hnil⟩ := run_append_own_string (P := P) w 0 t u ty e i ht hu hi hz hsize hby v n us hown s h63 hbytes (Nat.zero_le _)
  refine ⟨v', w', hr, ho, ?_⟩
  have hsmall : n + s.size ≤ 9223372036854775807 := by simp only [maxLen] at h63; omega
  rcases hown.2 with ⟨hv, hn⟩ | ⟨g, cap, cur, hv, hbg, hgg, hnc, hcm, hcs, htake⟩
  · by_cases hm : s.size = 0
    · have hf := run_firstCells_string (P := P) w 1 s
      have hn0 : strCells s = [] := List.eq_nil_of_length_eq_zero (by rw [strCells_length]; exact hm)
      subst hv
      subst hn
      have h2 : (Builtin.append_ #[t, u] ty #[.slice none 0 0, .string s]).run P w = .ok (.slice none 0 0) w := by
        rw [hm] at hf
        simp [Builtin.append_, run_underlying ht, run_underlying hu, sizeOf, typeInfo, hi, hsize, Builtin.lenOf, hm, hf]
      rw [h2] at hr
      cases hr
      exact .refl hown
    · subst hv
      subst hn
      have h2 := run_append_nil_string (P := P) w t u ty e i (.int .u8 0) ht hu hi hz s (by omega) (by omega) (by rw [hby]; omega)
      rw [h2] at hr
      cases hr
      exact .new_row hown rfl
  · subst hv
    by_cases hroom : n + s.size ≤ cap
    · have hcs' : cur.size = cap := by simpa using hcs
      have h2 := run_append_room_string (P := P) w t u ty e i ht hu hi hsize g n cap cur hgg s hroom (by omega)
      rw [h2] at hr
      cases hr
      refine .room rfl rfl hgg ?_
      intro j x hx
      have htk : cur.toList.take n = us := by simpa using htake
      have := take_pre (news := strCells s) htk (by simp; omega) j x hx
      rw [strCells_length] at this
      simpa using this
    · have holds : ∀ j u, us[j]? = some u → w.cell? ((⟨g, 0, none⟩ : Addr).add j) = some u := hown.cells (g := g) rfl
      have hxl : us.length = n := by simpa using hown.1
      have h2 := run_append_grow_string (P := P) w t u ty e i (.int .u8 0) ht hu hi hz ⟨g, 0, none⟩ n cap us (by rw [hsize]; simpa using hxl) holds s (by omega) (by omega) (by rw [hby]; exact growslice_fits (by omega) (by omega))
      rw [h2] at hr
      cases hr
      exact .new_row hown rfl

theorem app_slice_like {t ty e : TypeId} {i : TypeInfo} {z : Value} {size n : Nat} {v u : Value} {us news : List Value} {ad : Addr} {m c : Nat} (hlk : Like v u) (ht : P.underlying t = some (.slice e)) (hi : P.info? e = some i)
    (hz : i.zero = some z) (hsize : i.size = size) (hzs : z.cells.size = size) (hsz : 0 < size) (hown : w.ownsRow 0 e size u n us)
    (hl : news.length = m * size) (hnews : ∀ j u, news[j]? = some u → w.cell? (ad.add j) = some u) (h1 : ∀ u ∈ news, u.oneCell' = true)
    (h63 : n + m ≤ maxLen) (hbytes : (n + m) * i.bytes ≤ 140737488355328) :
    ∃ v' u' w', (Builtin.append_ #[t, t] ty #[v, .slice (some ad) m c]).run P w = .ok v' w' ∧ Like v' u' ∧ w'.ownsRow 0 e size u' (n + m) (us ++ news) ∧ App w w' u u' us := by
  rcases hlk.own hown with rfl | ⟨rfl, hn, hus, a, rfl⟩
  · obtain ⟨v', w', h1, h2, h3⟩ := app_slice (ty := ty) (c := c) ht hi hz hsize hzs hsz hown hl hnews h1 h63 hbytes
    exact ⟨v', v', w', h1, .refl _, h2, h3⟩
  · subst hn; subst hus
    by_cases hm : m = 0
    · subst hm
      have hnil : news = [] := List.eq_nil_of_length_eq_zero (by rw [hl, Nat.zero_mul])
      subst hnil
      exact ⟨_, _, w, run_append_zero (A := some ad) (c := c) (ty := ty) ht hi hown hlk ⟨e, ht⟩, hlk, hown, .refl hown⟩
    · obtain ⟨v', w', k1, k2, k3⟩ := app_slice (ty := ty) (c := c) ht hi hz hsize hzs hsz hown hl hnews h1 h63 hbytes
      rw [← run_append_bare (a := a) ht hi hz (by rw [hsize]; exact hl) hnews (by omega) (by simp only [maxLen] at h63; omega) (by rw [Nat.zero_add] at hbytes; omega)] at k1
      exact ⟨v', v', w', k1, .refl _, k2, k3⟩
theorem app_str_like {t u ty e : TypeId} {i : TypeInfo} {n : Nat} {v v0 : Value} {us : List Value} {s : ByteArray} (hlk : Like v v0) (ht : P.underlying t = some (.slice e)) (hu : P.underlying u = some .string) (hi : P.info? e = some i)
    (hz : i.zero = some (.int .u8 0)) (hsize : i.size = 1) (hby : i.bytes = 1) (hown : w.ownsRow 0 e 1 v0 n us)
    (h63 : n + s.size ≤ maxLen) (hbytes : n + s.size ≤ 140737488355328) :
    ∃ v' u' w', (Builtin.append_ #[t, u] ty #[v, .string s]).run P w = .ok v' w' ∧ Like v' u' ∧ w'.ownsRow 0 e 1 u' (n + s.size) (us ++ strCells s) ∧ App w w' v0 u' us := by
  rcases hlk.own hown with rfl | ⟨rfl, hn, hus, a, rfl⟩
  · obtain ⟨v', w', h1, h2, h3⟩ := app_str (ty := ty) ht hu hi hz hsize hby hown h63 hbytes
    exact ⟨v', v', w', h1, .refl _, h2, h3⟩
  · subst hn; subst hus
    by_cases hm : s.size = 0
    · have hf := run_firstCells_string (P := P) w 1 s
      have hn0 : strCells s = [] := List.eq_nil_of_length_eq_zero (by rw [strCells_length]; exact hm)
      rw [hm] at hf
      refine ⟨.slice (some a) 0 0, .slice none 0 0, w, ?_, hlk, ?_, .refl hown⟩
      · rw [hn0] at hf
        simp [Builtin.append_, run_underlying ht, run_underlying hu, sizeOf, typeInfo, hi, hsize, Builtin.lenOf, hm, hf, storeCells]
      · rw [hn0, hm]; exact hown
    · obtain ⟨v', w', k1, k2, k3⟩ := app_str (ty := ty) ht hu hi hz hsize hby hown h63 hbytes
      rw [← run_append_bare_string (a := a) ht hu hi hz (by omega) (by simp only [maxLen] at h63; omega) (by rw [hby]; omega)] at k1
      exact ⟨v', v', w', k1, .refl _, k2, k3⟩

end
end Go.Ab
namespace Go.Ab
open Go.Lib
section
variable {C : Cfg} {w w' : World} {fz fz' : Fz} {ρ ρ' : Rho} {Wr : Nat → Prop} {a : Act} {st : St}

theorem killLs_map (r : Nat) : ∀ ls : List L, killLs r ls = ls.map (killL r)
  | [] => by simp [killLs]
  | l :: ls => by simp [killLs, killLs_map r ls]
theorem killDs_map (r : Nat) : ∀ ds : List D, killDs r ds = ds.map (killD r)
  | [] => by simp [killDs]
  | d :: ds => by simp [killDs, killDs_map r ds]

theorem rep_kill {P : Program} {r : Nat} (hc : Kp fz w w') (hf : ∀ g o, fz g o → fz' g o)
    (hρ : ∀ b, b ≠ r → ∀ v, ρ b = some v → ρ' b = some v) {v : Value} {l : L} (h : Rep P w fz ρ v l) : Rep P w' fz' ρ' v (killL r l) := by
  induction h with
  | int k n => exact .int k n
  | bool b => exact .bool b
  | str s => exact .str s
  | lst A n c t xs u ad h1 h2 h3 h4 h5 h6 h7 _ =>
    exact (Rep.lst A n c t xs u ad h1 h2 h3 h4 h5 h6 h7 : Rep P w fz ρ _ _).mono P hc hf (by simp [refsL])
  | row r' v u h hl =>
    simp only [killL]
    split
    · exact .any _
    · exact .row r' v u (hρ r' ‹_› u h) hl
  | nils t => exact .nils t
  | ptr b o ad h =>
    simp only [killL]
    split
    · exact .any _
    · exact .ptr b o ad (hρ b ‹_› _ h)
  | aptr b base n i ad h hi =>
    simp only [killL]
    split
    · exact .any _
    · exact .aptr b base n i ad (hρ b ‹_› _ h) hi
  | eptr t e o u ad h1 h2 h3 h4 _ => exact (Rep.eptr t e o u ad h1 h2 h3 h4 : Rep P w fz ρ _ _).mono P hc hf (by simp [refsL])
  | rptr r' t i o ad n c h hi =>
    simp only [killL]
    split
    · exact .any _
    · exact .rptr r' t i o ad n c (hρ r' ‹_› _ h) hi
  | ars r' A n c u h hl =>
    simp only [killL]
    split
    · exact .any _
    · exact .ars r' A n c u (hρ r' ‹_› _ h) hl
  | elp r' t i o ad n c h hi =>
    simp only [killL]
    split
    · exact .any _
    · exact .elp r' t i o ad n c (hρ r' ‹_› _ h) hi
  | mat r' A n c us h =>
    simp only [killL]
    split
    · exact .any _
    · exact .mat r' A n c us (hρ r' ‹_› _ h)
  | mptr r' i ad n c us h hi =>
    simp only [killL]
    split
    · exact .any _
    · exact .mptr r' i ad n c us (hρ r' ‹_› _ h) hi
  | mrow r' i v us A n c h hi =>
    simp only [killL]
    split
    · exact .any _
    · exact .mrow r' i v us A n c (hρ r' ‹_› _ h) hi
  | mel r' t i j o v us ad n c h hi hj =>
    simp only [killL]
    split
    · exact .any _
    · exact .mel r' t i j o v us ad n c (hρ r' ‹_› _ h) hi hj
  | slf b o ad v h hv =>
    simp only [killL]
    split
    · exact .any _
    · exact .slf b o ad v (hρ b ‹_› _ h) hv
  | mp b es h hz => exact .mp b es (hc.2 _ _ _ hz h) (hf _ _ hz)
  | nilp => exact .nilp
  | nilf => exact .nilf
  | clo f vs cs h1 _ ih =>
    simp only [killL, killLs_map]
    refine .clo f vs _ (by simpa using h1) fun i l hl => ?_
    simp only [List.getElem?_map, Option.map_eq_some_iff] at hl
    obtain ⟨l0, h3, rfl⟩ := hl
    exact ih i l0 h3
  | any v => exact .any v

theorem repLs_map {r r' : Value → L → Prop} {f : L → L} (hf : ∀ v l, r v l → r' v (f l)) : ∀ {vs : List Value} {ls : List L}, RepLs r vs ls → RepLs r' vs (ls.map f)
  | [], [], _ => trivial
  | _ :: _, _ :: _, h => ⟨hf _ _ h.1, repLs_map hf h.2⟩
mutual
theorem repD_kill {r r' : Value → L → Prop} {k : Nat} (hf : ∀ v l, r v l → r' v (killL k l)) : ∀ {v : Value} {d : D}, RepD r v d → RepD r' v (killD k d)
  | v, .lf l, h => by simp only [RepD, killD] at h ⊢; exact hf v l h
  | v, .agg ls, h => by
    simp only [RepD, killD] at h ⊢
    obtain ⟨cs, e, h⟩ := h
    exact ⟨cs, e, by rw [killLs_map]; exact repLs_map hf h⟩
  | v, .tup ds, h => by
    simp only [RepD, killD] at h ⊢
    obtain ⟨vs, e, h⟩ := h
    exact ⟨vs, e, repDs_kill hf h⟩
theorem repDs_kill {r r' : Value → L → Prop} {k : Nat} (hf : ∀ v l, r v l → r' v (killL k l)) : ∀ {vs : List Value} {ds : List D}, RepDs r vs ds → RepDs r' vs (killDs k ds)
  | [], [], _ => by simp [RepDs, killDs]
  | v :: vs, d :: ds, h => by
    simp only [RepDs, killDs] at h ⊢
    exact ⟨repD_kill hf h.1, repDs_kill hf h.2⟩
  | [], _ :: _, h => by simp [RepDs] at h
  | _ :: _, [], h => by simp [RepDs] at h
end
theorem tyB_kill (r : Nat) : ∀ {ks : List K} {ls : List L}, TyB ks ls → TyB ks (ls.map (killL r))
  | [], [], _ => trivial
  | k :: _, l :: _, h => ⟨by
      have := h.1
      cases k <;> simp only [TyK] at this ⊢ <;> first | trivial | (obtain ⟨_, rfl⟩ := this; exact ⟨_, rfl⟩), tyB_kill r h.2⟩

theorem getD_map_kill (r : Nat) (hp : List B) (b : Nat) : (hp.map (killB r)).getD b .dead = killB r (hp.getD b .dead) := by
  simp only [List.getD, List.getElem?_map]
  cases hp[b]? <;> rfl
theorem killB_dead (r : Nat) (x : B) : killB r x = .dead ↔ x = .dead := by cases x <;> simp [killB]

theorem HSim.app (H : HSim C.P w fz ρ Wr st.hp) {r : Nat} {v v' : Value} {us : List Value} {t : TypeId} {xs ys : List (List L)} {ex : Bool} {news : List Value}
    (hb : st.hp.getD r .dead = .row t xs ex) (hv : ρ r = some v) (hus : RepLs (Rep C.P w fz ρ) us xs.flatten) (hown : w.ownsRow 0 t (kinds C.P t).length v xs.length us)
    (A : App w w' v v' us) (hown' : w'.ownsRow 0 t (kinds C.P t).length v' (xs.length + ys.length) (us ++ news)) (hnews : RepLs (Rep C.P w fz ρ) news ys.flatten)
    (hconf : ∀ e ∈ ys, Conf C.P t e) (hw : ∀ k, w.heap.size ≤ k → Wr k) :
    ∃ fz', FzExt fz fz' Wr ∧ HSim C.P w' fz' (fun i => if i = r then some v' else ρ i) Wr ((st.hp.map (killB r)).set r (.row t (xs ++ ys) ex)) ∧
      Kp fz w w' ∧ (∀ k, k < w.heap.size → ¬ Wr k → w'.heap[k]? = w.heap[k]?) := by
  have hBr := H.blk r
  rw [hb] at hBr
  obtain ⟨v0, us0, h1, h2, h3, h4, h5, h6, h7, h8⟩ := hBr
  rw [hv] at h1; cases h1
  have hlive : st.hp.getD r .dead ≠ .dead := by rw [hb]; simp
  have hlt := live_lt hlive
  have hxl : xs.flatten.length = xs.length * (kinds C.P t).length := flatten_len fun e he => (h4 e he).length
  have husl : us.length = xs.length * (kinds C.P t).length := hown.1
  -- what is only read stays
  have hc : Kp fz w w' := by
    refine ⟨fun g o u hz hcell => ?_, fun g es c hz hm => ?_⟩
    · by_cases e : bk v = some g
      · have ho := (h7 g o e hz).2
        obtain ⟨u2, hu2⟩ : ∃ u2, us[o]? = some u2 := ⟨us[o]'(by omega), List.getElem?_eq_getElem _⟩
        have h9 := hown.cells (g := g) (by rw [ownBlock_bk hown]; exact e) o u2 hu2
        rw [add_zero', hcell] at h9
        cases h9
        exact A.pre g o u e hu2
      · rw [World.cell?_of_block (w := w) (a := ⟨g, o, none⟩) (A.other g (H.lt g o hz) e)]
        exact hcell
    · have e : bk v ≠ some g := fun e => by
        rcases hown.2 with ⟨hn, _⟩ | ⟨g', cap, cur, hv', _, hg', _⟩
        · rw [hn] at e; simp [bk] at e
        · rw [hv'] at e
          simp only [bk, Option.some.injEq] at e
          rw [e, hm] at hg'; cases hg'
      rw [A.other g (H.lt g 0 hz) e]
      exact hm
  -- if the slice is frozen, its cells in their new place are frozen too
  let fz' : Fz := fun g o => fz g o ∨ (ex = false ∧ bk v' = some g ∧ o < (xs.length + ys.length) * (kinds C.P t).length)
  have hf : ∀ g o, fz g o → fz' g o := fun g o h => .inl h
  have hWr' : ∀ g, bk v' = some g → Wr g := by
    intro g hg
    rcases A.new with h | h
    · exact H.wr r v g hlive hv (.of (h ▸ hg))
    · exact hw g (h g hg)
  have hρ : ∀ b, b ≠ r → ∀ u, ρ b = some u → (fun i => if i = r then some v' else ρ i) b = some u := fun b hb u hu => by simp [hb, hu]
  have hbr : ∀ g, Bl v g → bk v = some g := fun g h => h.own hown
  have hbr' : ∀ g, Bl v' g → bk v' = some g := fun g h => h.own hown'
  have hdist : ∀ b u g, b ≠ r → st.hp.getD b .dead ≠ .dead → ρ b = some u → Bl u g → bk v' ≠ some g ∧ bk v ≠ some g ∧ g < w.heap.size := by
    intro b u g hne hd hu hg
    have hgl : g < w.heap.size := H.bl_lt hd hu hg
    have hvg : bk v ≠ some g := fun e => H.dis r b v u g (Ne.symm hne) hlive hd hv hu (.of e) hg
    refine ⟨fun e => ?_, hvg, hgl⟩
    rcases A.new with h | h
    · exact hvg (h ▸ e)
    · have := h g e
      omega
  have hgl : ∀ b, ((st.hp.map (killB r)).set r (.row t (xs ++ ys) ex)).getD b .dead = if b = r then .row t (xs ++ ys) ex else killB r (st.hp.getD b .dead) := by
    intro b
    rw [getD_set, getD_map_kill]
    by_cases e : b = r
    · subst e; simp [hlt]
    · have : ¬ (r = b ∧ r < (st.hp.map (killB r)).length) := fun h => e h.1.symm
      rw [if_neg this, if_neg e]
  have hl : ∀ b, b ≠ r → ((st.hp.map (killB r)).set r (.row t (xs ++ ys) ex)).getD b .dead ≠ .dead → st.hp.getD b .dead ≠ .dead := by
    intro b hne h
    rw [hgl, if_neg hne] at h
    exact fun e => h ((killB_dead r _).2 e)
  refine ⟨fz', ⟨hf, fun g o h => h.elim .inl fun h => .inr (hWr' g h.2.1)⟩, ⟨?_, ?_, ?_, ?_, ?_, ?_⟩, hc, ?_⟩
  · intro b u hu
    split at hu
    · cases hu
      rcases hown'.2 with ⟨rfl, _⟩ | ⟨_, _, _, rfl, _⟩ <;> rfl
    · exact H.one b u hu
  · intro b hb'
    simp at hb'
    rw [if_neg (by omega)]
    exact H.out b hb'
  · intro b
    rw [hgl]
    by_cases e : b = r
    · subst e
      rw [if_pos rfl]
      refine ⟨v', us ++ news, by simp, by rw [List.length_append]; exact hown', ?_, ?_, h5, h6, ?_, ?_⟩
      · rw [List.flatten_append]
        have m : ∀ (vs : List Value) (zs : List (List L)), (∀ e ∈ zs, Conf C.P t e) → RepLs (Rep C.P w fz ρ) vs zs.flatten → RepLs (Rep C.P w' fz' (fun i => if i = b then some v' else ρ i)) vs zs.flatten := by
          intro vs zs hz hh
          refine hh.mono fun u l hl hu => hu.mono C.P hc hf ?_
          obtain ⟨e, he, hle⟩ := List.mem_flatten.1 hl
          obtain ⟨kk, hk⟩ := HasKs.mem (hz e he) l hle
          simp [hk.refs]
        exact (m us xs h4 hus).append (m news ys hconf hnews)
      · intro e he
        rcases List.mem_append.1 he with h | h
        · exact h4 e h
        · exact hconf e h
      · intro g o hg ho
        rw [List.length_append]
        rcases ho with ho | ho
        · rcases A.new with h | h
          · have := h7 g o (h ▸ hg) ho
            have h10 : xs.length * (kinds C.P t).length ≤ (xs.length + ys.length) * (kinds C.P t).length := Nat.mul_le_mul_right _ (by omega)
            exact ⟨this.1, by omega⟩
          · have := h g hg
            have := H.lt g o ho
            omega
        · exact ⟨ho.1, ho.2.2⟩
      · intro he g o hg ho
        rw [List.length_append] at ho
        exact .inr ⟨he, hg, ho⟩
    · rw [if_neg e]
      by_cases hd : st.hp.getD b .dead = .dead
      · rw [hd]; trivial
      · have hbb := H.blk b
        cases hcb : st.hp.getD b .dead with
        | dead => exact absurd hcb hd
        | box ks cs =>
          rw [hcb] at hbb
          obtain ⟨g', us', t', e1, e2, e3, e4, e5⟩ := hbb
          obtain ⟨n1, n2, n3⟩ := hdist b _ g' e hd e1 (.of rfl)
          refine ⟨g', us', t', by simp [e, e1], by rw [A.other g' n3 n2]; exact e2, ?_, by rw [killLs_map]; exact tyB_kill r e4, fun o ho => ?_, e5.2⟩
          · rw [killLs_map]
            exact repLs_map (fun u l hu => rep_kill hc hf hρ hu) e3
          · rcases ho with ho | ho
            · exact e5.1 o ho
            · exact n1 ho.2.1
        | row t' xs' ex' =>
          rw [hcb] at hbb
          refine BS.mono C.P (ρ' := fun i => if i = r then some v' else ρ i) hbb hc hf (hρ b e) (fun u g hu hg => ?_) (by simp [killB, refsB])
          obtain ⟨n1, n2, n3⟩ := hdist b u g e hd hu hg
          exact ⟨A.other g n3 n2, fun o ho => ho.elim id fun ho => absurd ho.2.1 n1⟩
        | arr t' xs' =>
          rw [hcb] at hbb
          refine BS.mono C.P (ρ' := fun i => if i = r then some v' else ρ i) hbb hc hf (hρ b e) (fun u g hu hg => ?_) (by simp [killB, refsB])
          obtain ⟨n1, n2, n3⟩ := hdist b u g e hd hu hg
          exact ⟨A.other g n3 n2, fun o ho => ho.elim id fun ho => absurd ho.2.1 n1⟩
        | mat t' e' yss' =>
          rw [hcb] at hbb
          refine BS.mono C.P (ρ' := fun i => if i = r then some v' else ρ i) hbb hc hf (hρ b e) (fun u g hu hg => ?_) (by simp [killB, refsB])
          obtain ⟨n1, n2, n3⟩ := hdist b u g e hd hu hg
          exact ⟨A.other g n3 n2, fun o ho => ho.elim id fun ho => absurd ho.2.1 n1⟩
        | miter es left cur =>
          rw [hcb] at hbb
          refine BS.mono C.P (ρ' := fun i => if i = r then some v' else ρ i) hbb hc hf (hρ b e) (fun u g hu hg => ?_) (by simp [killB, refsB])
          obtain ⟨n1, n2, n3⟩ := hdist b u g e hd hu hg
          exact ⟨A.other g n3 n2, fun o ho => ho.elim id fun ho => absurd ho.2.1 n1⟩
        | iter s pos =>
          rw [hcb] at hbb
          refine BS.mono C.P (ρ' := fun i => if i = r then some v' else ρ i) hbb hc hf (hρ b e) (fun u g hu hg => ?_) (by simp [killB, refsB])
          obtain ⟨n1, n2, n3⟩ := hdist b u g e hd hu hg
          exact ⟨A.other g n3 n2, fun o ho => ho.elim id fun ho => absurd ho.2.1 n1⟩
  · intro b c v1 u1 g hne hb1 hc1 hv1 hu1 hg hg2
    by_cases e : b = r
    · have e2 : c ≠ r := fun e2 => hne (e.trans e2.symm)
      rw [if_pos e] at hv1
      rw [if_neg e2] at hu1
      cases hv1
      exact (hdist c u1 g e2 (hl c e2 hc1) hu1 hg2).1 (hbr' g hg)
    · rw [if_neg e] at hv1
      by_cases e2 : c = r
      · rw [if_pos e2] at hu1
        cases hu1
        exact (hdist b v1 g e (hl b e hb1) hv1 hg).1 (hbr' g hg2)
      · rw [if_neg e2] at hu1
        exact H.dis b c v1 u1 g hne (hl b e hb1) (hl c e2 hc1) hv1 hu1 hg hg2
  · intro b u g hb1 hu hg
    by_cases e : b = r
    · rw [if_pos e] at hu
      cases hu
      exact hWr' g (hbr' g hg)
    · rw [if_neg e] at hu
      exact H.wr b u g (hl b e hb1) hu hg
  · intro g o h
    rcases h with h | h
    · exact Nat.lt_of_lt_of_le (H.lt g o h) A.size
    · exact (hown'.lt g (by rw [ownBlock_bk hown']; exact h.2.1)).2
  · intro k hk hn
    exact A.other k hk fun e => hn (H.wr r v k hlive hv (.of e))

theorem strCells_rep {z : ByteArray} : RepLs (Rep C.P w fz ρ) (strCells z) (bytesOf z).flatten := by
  unfold strCells bytesOf
  generalize z.data.toList = l
  induction l with
  | nil => exact trivial
  | cons b l ih => exact ⟨.int _ _, ih⟩
theorem bytesOf_len {z : ByteArray} : (bytesOf z).length = z.size := by
  unfold bytesOf
  rw [List.length_map, Array.length_toList]
  rfl
theorem strT_under {P : Program} {t : TypeId} (h : strT P t = true) : P.underlying t = some .string := by
  unfold strT at h
  split at h
  · assumption
  · cases h

theorem app_any (S : Sim C.P w fz ρ Wr a st) {t t' e : TypeId} {x : Operand} {ys : List (List L)} {v u : Value} {n : Nat} {us : List Value} {ty : TypeId} (hlk : Like v u) (he : elemT C t = some e)
    (hsrc : srcOf C e st.hp (st.leaf x) = some (e, ys)) (hsz : sizeT C.P e = (kinds C.P e).length) (h0 : 0 < sizeT C.P e) (hzero : (zeroOf C.P e).isSome) (hfit : srcFits C t t' e (st.leaf x) = true)
    (hown : w.ownsRow 0 e (kinds C.P e).length u n us) (hroom : roomy C (n + ys.length) e = true) :
    ∃ v' u' w' news, (Builtin.append_ #[t, t'] ty #[v, a.eval x]).run C.P w = .ok v' w' ∧ Like v' u' ∧ w'.ownsRow 0 e (kinds C.P e).length u' (n + ys.length) (us ++ news) ∧ App w w' u u' us ∧
      RepLs (Rep C.P w fz ρ) news ys.flatten ∧ (∀ y ∈ ys, Conf C.P e y) := by
  have hu := elemT_under he
  obtain ⟨zl, hzl⟩ := Option.isSome_iff_exists.1 hzero
  obtain ⟨i, z, hi, hiz, hzr, hzt⟩ := zeroOf_sound (w := w) (fz := fz) (ρ := ρ) hzl
  have hisz : i.size = (kinds C.P e).length := by rw [← hsz]; simp [sizeT, hi]
  have hbt : i.bytes = bytesT C.P e := by simp [bytesT, hi]
  have hzs : z.cells.size = (kinds C.P e).length := by
    have := hzr.length
    rw [hzt.length] at this
    simpa using this
  simp only [roomy, Bool.and_eq_true, decide_eq_true_eq] at hroom
  obtain ⟨hb, hm⟩ := hroom
  have hx := S.leaf x
  -- nothing to append
  have none_ : ∀ (A : Option Addr) (c : Nat), t' = t → a.eval x = .slice A 0 c → ys = [] → ∃ v' u' w' news, (Builtin.append_ #[t, t'] ty #[v, a.eval x]).run C.P w = .ok v' w' ∧ Like v' u' ∧ w'.ownsRow 0 e (kinds C.P e).length u' (n + ys.length) (us ++ news) ∧ App w w' u u' us ∧
      RepLs (Rep C.P w fz ρ) news ys.flatten ∧ (∀ y ∈ ys, Conf C.P e y) := by
    intro A c ht hv hy
    subst hy
    subst ht
    rw [hv]
    exact ⟨v, u, w, [], run_append_zero hu hi hown hlk ⟨e, hu⟩, hlk, by simpa using hown, .refl hown, trivial, by simp⟩
  unfold srcOf at hsrc
  split at hsrc
  · -- a string
    rename_i s hs
    split at hsrc
    case isFalse => cases hsrc
    rename_i hk
    simp only [Option.some.injEq, Prod.mk.injEq, true_and] at hsrc
    subst hsrc
    rw [hs] at hx hfit
    simp only [srcFits, Bool.and_eq_true] at hfit
    have hu' := strT_under hfit.1
    have h8 := hfit.2
    unfold zeroU8 at h8
    simp only [hi, hiz] at h8
    split at h8
    · rename_i nn hzv
      simp only [Option.some.injEq] at hzv
      subst hzv
      simp only [Bool.and_eq_true, beq_iff_eq] at h8
      obtain ⟨⟨h9, h10⟩, h11⟩ := h8
      subst h9
      have hk1 : (kinds C.P e).length = 1 := by rw [hk]; rfl
      rw [hk1] at hown ⊢
      rw [bytesOf_len] at hb hm ⊢
      obtain ⟨v', u', w', hr, hlk', ho, hA⟩ := app_str_like (P := C.P) (ty := ty) hlk hu hu' hi hiz h10 h11 hown (s := s) hm (by rw [← hbt, h11] at hb; omega)
      rw [rep_str hx]
      refine ⟨v', u', w', strCells s, hr, hlk', ho, hA, strCells_rep, fun y hy => ?_⟩
      unfold bytesOf at hy
      obtain ⟨b, _, rfl⟩ := List.mem_map.1 hy
      unfold Conf
      rw [hk]
      exact ⟨⟨_, rfl⟩, trivial⟩
    · cases h8
  · -- nil
    rename_i tn hs
    simp only [Option.some.injEq, Prod.mk.injEq, true_and] at hsrc
    rw [hs] at hx hfit
    simp only [srcFits, beq_iff_eq] at hfit
    generalize hv : a.eval x = vx at hx
    cases hx
    rw [← hv]
    exact none_ none 0 hfit hv hsrc.symm
  · -- a slice
    rename_i te xs hs
    simp only [Option.some.injEq, Prod.mk.injEq] at hsrc
    obtain ⟨rfl, rfl⟩ := hsrc
    rw [hs] at hfit
    simp only [srcFits, beq_iff_eq] at hfit
    obtain ⟨⟨A, c, hva⟩, hconf, vs, hvs, hcell⟩ := cont_rep S (by rw [hs]; rfl : cont st.hp (st.leaf x) = some (te, xs)) hx
    by_cases hne : xs = []
    · subst hne; exact none_ A c hfit hva rfl
    · have hxl : xs.flatten.length = xs.length * (kinds C.P te).length := flatten_len fun y hy => (hconf y hy).length
      have hfne : xs.flatten ≠ [] := by
        intro e
        have h1 : 0 < xs.length := List.length_pos_iff.2 hne
        have := congrArg List.length e
        rw [hxl] at this
        have h2 : 0 < xs.length * (kinds C.P te).length := Nat.mul_pos h1 (by omega)
        simp at this
        omega
      obtain ⟨ad, n', c', hv2, hc2⟩ := hcell hfne
      rw [hva] at hv2
      cases hv2
      subst hfit
      obtain ⟨v', u', w', hr, hlk', ho, hA⟩ := app_slice_like (P := C.P) (ty := ty) (c := c) hlk hu hi hiz hisz hzs (by omega) hown (by rw [hvs.length, hxl]) (hc2 w fun _ _ => rfl)
        (repLs_one S.hp.one hvs fun l hl => by
          obtain ⟨y, hy, hly⟩ := List.mem_flatten.1 hl
          obtain ⟨kk, hk⟩ := HasKs.mem (hconf y hy) l hly
          rintro rfl
          cases kk <;> simp [HasK] at hk) hm (by rw [hbt]; exact hb)
      rw [hva]
      exact ⟨v', u', w', vs, hr, hlk', ho, hA, hvs, hconf⟩
  · -- a slice of the call's own
    rename_i r hs
    rw [hs] at hfit
    simp only [srcFits, beq_iff_eq] at hfit
    obtain ⟨⟨A, c, hva⟩, hconf, vs, hvs, hcell⟩ := cont_rep S (by rw [hs]; exact hsrc : cont st.hp (st.leaf x) = some (e, ys)) hx
    by_cases hne : ys = []
    · subst hne; exact none_ A c hfit hva rfl
    · have hxl : ys.flatten.length = ys.length * (kinds C.P e).length := flatten_len fun y hy => (hconf y hy).length
      have hfne : ys.flatten ≠ [] := by
        intro e'
        have h1 : 0 < ys.length := List.length_pos_iff.2 hne
        have := congrArg List.length e'
        rw [hxl] at this
        have h2 : 0 < ys.length * (kinds C.P e).length := Nat.mul_pos h1 (by omega)
        simp at this
        omega
      obtain ⟨ad, n', c', hv2, hc2⟩ := hcell hfne
      rw [hva] at hv2
      cases hv2
      subst hfit
      obtain ⟨v', u', w', hr, hlk', ho, hA⟩ := app_slice_like (P := C.P) (ty := ty) (c := c) hlk hu hi hiz hisz hzs (by omega) hown (by rw [hvs.length, hxl]) (hc2 w fun _ _ => rfl)
        (repLs_one S.hp.one hvs fun l hl => by
          obtain ⟨y, hy, hly⟩ := List.mem_flatten.1 hl
          obtain ⟨kk, hk⟩ := HasKs.mem (hconf y hy) l hly
          rintro rfl
          cases kk <;> simp [HasK] at hk) hm (by rw [hbt]; exact hb)
      rw [hva]
      exact ⟨v', u', w', vs, hr, hlk', ho, hA, hvs, hconf⟩
  · cases hsrc

theorem append_ok (S : Sim C.P w fz ρ Wr a st) (hw : ∀ k, w.heap.size ≤ k → Wr k) {o : Oper} {κ : D → St → R} {r : List L} {c : Call} {s x : Operand}
    (hop : o.op = .call c) (hcal : c.callee = .builtin .append) (hargs : c.args = #[s, x]) (h : appendA C c.argTypes.toList (st.leaf s) (st.leaf x) st κ = some r) : OpOk C w fz ρ Wr a o κ r := by
  unfold appendA at h
  split at h
  case h_2 => cases h
  rename_i t t' hts
  have hat : c.argTypes = #[t, t'] := by rw [← Array.toArray_toList (xs := c.argTypes), hts]
  split at h
  · cases h
  rename_i e he
  split at h
  · cases h
  rename_i e' ys hsrc
  split at h
  case isFalse => cases h
  rename_i hc
  obtain ⟨rfl, hsz, h0, hzero, hfit⟩ := hc
  have run : ∀ (v v' : Value) (W : World), a.eval s = v → (Builtin.append_ #[t, t'] o.type #[v, a.eval x]).run C.P w = .ok v' W → (execOp a.eval o).run C.P w = .ok (.value v') W := by
    intro v v' W hv hr
    simp only [execOp, hop, resolve, hcal, invoke, builtin, Sem.run_bind, Sem.run_pure, Result.andThen_ok, hat, hargs, List.map_toArray, List.map_cons, List.map_nil, hv, hr]
  have hs := S.leaf s
  split at h
  · -- a slice of the call's own
    rename_i rr hl
    split at h
    · rename_i e'' xs ex hb
      split at h
      case isFalse => cases h
      rename_i he2
      subst he2
      have hg : roomy C (xs.length + ys.length) e'' = true := by
        cases hb : roomy C (xs.length + ys.length) e'' with
        | true => rfl
        | false => rw [hb] at h; cases h
      rw [hg] at h
      simp only [cond_true] at h
      rw [hl] at hs
      generalize hv : a.eval s = vs at hs
      cases hs with
      | row _ _ u0 hρ hlk =>
        have hB := S.hp.blk rr
        rw [hb] at hB
        obtain ⟨v0, us, h1, h2, h3, h4, h5, h6, h7, h8⟩ := hB
        rw [hρ] at h1; cases h1
        obtain ⟨v', u', w', news, hr, hlk', ho, hA, hnews, hconf⟩ := app_any S (ty := o.type) hlk he hsrc hsz h0 hzero hfit h2 hg
        obtain ⟨fz', x1, H', hc', hblk⟩ := S.hp.app hb hρ h3 h2 hA ho hnews hconf hw
        refine ⟨_, _, v', w', fz', _, h, ?_, ⟨?_, H'⟩, ⟨hA.os, hA.tape, hA.output, hA.size, hblk, hc', x1⟩, (fun b p hs hp => by
          have : b ≠ rr := fun e => by
            rw [e, hρ] at hp
            cases hp
            exact not_stays h2 hs
          simp [this, hp]), .inl (run _ v' w' hv hr)⟩
        · show Rep _ _ _ _ _ _
          exact .row _ _ u' (by simp) hlk'
        · exact repDs_kill (fun u l hu => rep_kill hc' x1.1 (fun b hb u hu => by simp [hb, hu]) hu) S.tm
    · cases h
  · -- nil
    rename_i tn hl
    have hg : roomy C ys.length e' = true := by
      cases hb : roomy C ys.length e' with
      | true => rfl
      | false => rw [hb] at h; cases h
    rw [hg] at h
    simp only [cond_true] at h
    rw [hl] at hs
    generalize hv : a.eval s = vs at hs
    cases hs
    obtain ⟨v', u', w', news, hr, hlk', ho, hA, hnews, hconf⟩ := app_any S (ty := o.type) (.refl _) he hsrc hsz h0 hzero hfit (World.ownsRow_nil w 0 e' (kinds C.P e').length) (by simpa using hg)
    have hold : ∀ k, k < w.heap.size → w'.heap[k]? = w.heap[k]? := fun k hk => hA.other k hk (by simp [bk])
    simp only [Nat.zero_add, List.nil_append] at ho
    have hnew : ∀ g, bk u' = some g → w.heap.size ≤ g := by
      rcases hA.new with h | h
      · intro g hg; rw [h] at hg; cases hg
      · exact h
    refine ⟨_, _, v', w', fz, (fun i => if i = st.hp.length then some u' else ρ i), h, ?_, S.add hA.size hold ?_ (fun g hg => ⟨hnew g (hg.own ho), hw g (hnew g (hg.own ho))⟩) ⟨u', news, by simp, ho, ?_, hconf, by omega, hsz, fun g o hg ho => ?_, fun h => by cases h⟩, .of_old hA.os hA.tape hA.output hA.size hold S.hp.lt, .add S.hp _, .inl (run _ v' w' hv hr)⟩
    · show Rep _ _ _ _ _ _
      exact .row _ _ u' (by simp) hlk'
    · rcases ho.2 with ⟨rfl, _⟩ | ⟨_, _, _, rfl, _⟩ <;> rfl
    · exact hnews.mono fun v l _ h => rep_ext (C := C) (st := st) S.hp hold h
    · have := hnew g hg
      have := S.hp.lt g o ho
      omega
  · cases h

end
end Go.Ab
namespace Go.Ab
section
variable {C : Cfg} {w w' : World} {fz fz' : Fz} {ρ ρ' : Rho} {Wr : Nat → Prop} {a : Act} {st : St}

theorem next_ok {G : Req → R} (S : Sim C.P w fz ρ Wr a st) {o : Oper} {κ : D → St → R} {r : List L} {it : Operand} (hop : o.op = .next it true) (h : effA C G o st κ = some r) : OpOk C w fz ρ Wr a o κ r := by
  simp only [effA, hop] at h
  split at h
  case h_2 => cases h
  rename_i b e
  have hx := S.leaf it
  rw [e] at hx
  split at h
  case h_2 => cases h
  rename_i s pos hb
  have hB := S.hp.blk b
  rw [hb] at hB
  obtain ⟨g, h1, h2, h3⟩ := hB
  have hlive : st.hp.getD b .dead ≠ .dead := by rw [hb]; simp
  generalize hv : a.eval it = vx at hx
  cases hx with
  | ptr _ _ ad h1' =>
    rw [h1] at h1'
    cases h1'
    have hv' : a.eval it = .pointer (some ⟨g, 0, none⟩) := by rw [hv]; rfl
    have hlt := (Array.getElem?_eq_some_iff.1 h2).1
    by_cases hp : pos < s.size
    · have hd : decide (pos < s.size) = true := by simp [hp]
      rw [hd] at h
      simp only [cond_true] at h
      let w1 : World := { w with heap := w.heap.setIfInBounds g (.stringIter s (pos + (Utf8.decode s pos).2)) }
      have hother : ∀ k, k ≠ g → w1.heap[k]? = w.heap[k]? := fun k hk => by
        show (w.heap.setIfInBounds g _)[k]? = _
        rw [Array.getElem?_setIfInBounds_ne (Ne.symm hk)]
      have hself : w1.heap[g]? = some (.stringIter s (pos + (Utf8.decode s pos).2)) := by
        show (w.heap.setIfInBounds g _)[g]? = _
        rw [Array.getElem?_setIfInBounds_self_of_lt hlt]
      have hc : Kp fz w w1 := by
        refine ⟨fun g' o v hz hcell => ?_, fun g' es' c hz hm' => ?_⟩
        · have hne : g' ≠ g := fun e => h3 o (e ▸ hz)
          rw [World.cell?_of_block (w := w) (a := ⟨g', o, none⟩) (hother g' hne)]
          exact hcell
        · have hne : g' ≠ g := fun e => h3 0 (e ▸ hz)
          rw [hother g' hne]
          exact hm'
      refine ⟨_, _, .tuple #[.bool true, goInt pos, .int .i32 (Utf8.decode s pos).1], w1, fz, ρ, h, ?_, S.put hlive h1 (.of rfl) (by simp [w1]) hother hc ⟨g, h1, hself, h3⟩, ⟨rfl, rfl, rfl, by simp [w1], fun k _ hn => hother k fun e => hn (e ▸ S.hp.wr b _ g hlive h1 (.of rfl)), hc, .refl⟩, .refl ρ, .inl ?_⟩
      · exact ⟨_, rfl, .bool _, .int _ _, .int _ _, trivial⟩
      · simp [execOp, hop, hv', Instr.next, getObj, setObj, Sem.run, h2, hp, w1]
    · have hd : decide (pos < s.size) = false := by simp [hp]
      rw [hd] at h
      simp only [cond_false] at h
      refine ⟨_, _, .tuple #[.bool false], w, fz, ρ, h, ⟨_, rfl, .bool _, trivial⟩, S, .refl _ _ _, .refl ρ, .inl ?_⟩
      simp [execOp, hop, hv', Instr.next, getObj, Sem.run, h2, hp]

theorem erase_born : ∀ (F : List MapEntry) (i : Nat) (e : MapEntry), (F.map (·.born)).Nodup → F[i]? = some e → (F.filter fun x => !(x.born == e.born)) = F.eraseIdx i
  | [], i, e, _, h => by simp at h
  | x :: F, 0, e, hn, h => by
    simp only [List.getElem?_cons_zero, Option.some.injEq] at h
    subst h
    obtain ⟨h1, _⟩ := List.nodup_cons.1 hn
    rw [List.filter_cons_of_neg (by simp), List.eraseIdx_cons_zero]
    refine List.filter_eq_self.2 fun y hy => ?_
    rw [Bool.not_eq_true', beq_eq_false_iff_ne]
    exact fun hb => h1 (List.mem_map.2 ⟨y, hy, hb⟩)
  | x :: F, i + 1, e, hn, h => by
    obtain ⟨h1, h2⟩ := List.nodup_cons.1 hn
    rw [List.getElem?_cons_succ] at h
    have hx : (!(x.born == e.born)) = true := by
      rw [Bool.not_eq_true', beq_eq_false_iff_ne]
      exact fun hb => h1 (List.mem_map.2 ⟨e, List.mem_of_getElem? h, hb.symm⟩)
    rw [List.filter_cons, hx, if_pos rfl, List.eraseIdx_cons_succ, erase_born F i e h2 h]
theorem erase_map {α β : Type} (f : α → β) : ∀ (l : List α) (i : Nat), (l.eraseIdx i).map f = (l.map f).eraseIdx i
  | [], _ => rfl
  | _ :: _, 0 => rfl
  | x :: l, i + 1 => by rw [List.eraseIdx_cons_succ, List.map_cons, List.map_cons, List.eraseIdx_cons_succ, erase_map f l i]
theorem filter_push (l : List MapEntry) (seen : Array Nat) (b : Nat) : (l.filter fun e => !(seen.push b).contains e.born) = (l.filter fun e => !seen.contains e.born).filter fun e => !(e.born == b) := by
  rw [List.filter_filter]
  congr 1
  funext e
  simp only [Array.contains_eq_any_beq, Array.any_push]
  cases seen.any fun x => e.born == x <;> cases e.born == b <;> rfl
theorem run_nextM {P : Program} {w : World} {ty : TypeId} {g m : Nat} {seen : Array Nat} {es : List (ByteArray × Int)} (hg : w.heap[g]? = some (.mapIter (some m) es.length seen es.length)) (hm : w.heap[m]? = some (.map (mapE es) es.length)) :
    (((mapEs 0 es).filter fun e => !seen.contains e.born) = [] ∧ (Instr.next (.pointer (some ⟨g, 0, none⟩)) false ty).run P w = .ok (.tuple #[.bool false]) w) ∨
    ∃ (i : Nat) (e : MapEntry) (w1 : World), ((mapEs 0 es).filter fun e => !seen.contains e.born)[i]? = some e ∧ (w1 = w ∨ w1 = w.drew) ∧
      (Instr.next (.pointer (some ⟨g, 0, none⟩)) false ty).run P w = .ok (.tuple #[.bool true, e.key, e.val]) { w1 with heap := w1.heap.setIfInBounds g (.mapIter (some m) es.length (seen.push e.born) es.length) } := by
  have hbn := (mapEs_born es 0).1
  have ht : (!seen.isEmpty && !(mapE es).isEmpty && (mapE es).all (fun x => decide (x.born ≥ es.length))) = false := by
    cases es with
    | nil => simp [mapE, mapEs]
    | cons p es => simp [mapE, mapEs]
  have hF : Array.filter (fun e => !seen.contains e.born) (mapE es) = ((mapEs 0 es).filter fun e => !seen.contains e.born).toArray := by
    unfold mapE
    simp
  have hlt : ∀ x ∈ (mapEs 0 es).filter (fun e => !seen.contains e.born), x.born < es.length := fun x hx => by
    have := (hbn x (List.mem_filter.1 hx).1).2
    omega
  simp only [Instr.next, getObj, Sem.run_bind, Sem.run, hg, hm, Result.andThen, ht, Bool.false_eq_true, if_false, hF]
  generalize (mapEs 0 es).filter (fun e => !seen.contains e.born) = F at hlt ⊢
  have e1 : F.toArray.filter (fun x => decide (x.born < es.length)) = F.toArray := Array.filter_eq_self.2 (fun x hx => by simpa using hlt x (by simpa using hx))
  have e2 : F.toArray.filter (fun x => decide (x.born ≥ es.length)) = #[] := by
    rw [Array.filter_eq_empty_iff]
    intro x hx
    have := hlt x (by simpa using hx)
    simp
    omega
  simp only [e1, e2, Array.append_empty]
  cases F with
  | nil =>
    left
    exact ⟨rfl, by simp [choose, Sem.run, Question.forced]⟩
  | cons x F =>
    right
    have hne : (x :: F).toArray.isEmpty = false := by simp
    simp only [hne, Bool.false_eq_true, if_false, Array.empty_append, Array.size_map]
    have hch : ∃ (j : Nat) (w1 : World), j < (x :: F).length ∧ (w1 = w ∨ w1 = w.drew) ∧ (choose (Question.mapNext (x :: F).toArray.size)).run P w = .ok j w1 := by
      by_cases hf : (x :: F).toArray.size ≤ 1
      · exact ⟨0, w, by simp, .inl rfl, by simp only [choose, Sem.run, Question.forced, decide_eq_true_eq, hf, if_true]⟩
      · exact ⟨_, w.drew, Nat.mod_lt _ (by simp), .inr rfl, by
          simp only [choose, Sem.run, Question.forced, decide_eq_true_eq, hf, if_false, Question.cut]
          rfl⟩
    obtain ⟨j, w1, hj, hal, hrun⟩ := hch
    refine ⟨j, (x :: F)[j], w1, List.getElem?_eq_getElem hj, hal, ?_⟩
    have hg1 : w1.heap[g]? = some (.mapIter (some m) es.length seen es.length) := by rcases hal with rfl | rfl <;> exact hg
    have hset : ∀ o' : Obj, (setObj g o').run P w1 = .ok () { w1 with heap := w1.heap.setIfInBounds g o' } := fun o' => by
      simp only [setObj, Sem.run, hg1]
    have hjj : ((x :: F).toArray.map some)[j]? = some (some (x :: F)[j]) := by
      rw [Array.getElem?_map, List.getElem?_toArray, List.getElem?_eq_getElem hj]; rfl
    simp only [hrun, hjj, Sem.run_bind, hset, Result.andThen]
    rfl
theorem nextM_ok {G : Req → R} (S : Sim C.P w fz ρ Wr a st) {o : Oper} {κ : D → St → R} {r : List L} {it : Operand} (hop : o.op = .next it false) (h : effA C G o st κ = some r) : OpOk C w fz ρ Wr a o κ r := by
  simp only [effA, hop] at h
  split at h
  case h_2 => cases h
  rename_i b e
  have hx := S.leaf it
  rw [e] at hx
  split at h
  case h_2 => cases h
  rename_i es left cur hb
  have hB := S.hp.blk b
  rw [hb] at hB
  obtain ⟨g, m, seen, h1, h2, h3, h4, h5, h6, h7⟩ := hB
  have hlive : st.hp.getD b .dead ≠ .dead := by rw [hb]; simp
  generalize hv : a.eval it = vx at hx
  cases hx with
  | ptr _ _ ad h1' =>
    rw [h1] at h1'
    cases h1'
    have hv' : a.eval it = .pointer (some ⟨g, 0, none⟩) := by rw [hv]; rfl
    have hlt := (Array.getElem?_eq_some_iff.1 h2).1
    have hlen := congrArg List.length h6
    rw [List.length_map, List.length_map] at hlen
    rcases run_nextM (P := C.P) (ty := o.type) h2 h4 with ⟨hF, hrun⟩ | ⟨i, en, w1, hF, hw1, hrun⟩
    · have hl : left.length = 0 := by rw [← hlen, hF]; rfl
      unfold nextOf at h
      rw [hl] at h
      exact ⟨_, _, .tuple #[.bool false], w, fz, ρ, h, ⟨_, rfl, .bool _, trivial⟩, S, .refl _ _ _, .refl ρ, .inl (by simp [execOp, hop, hv', hrun])⟩
    · have hi : i < left.length := by rw [← hlen]; exact (List.getElem?_eq_some_iff.1 hF).1
      have hcond : Nat.beq left.length 0 = false := by
        rw [← Bool.not_eq_true, Nat.beq_eq]; omega
      unfold nextOf at h
      rw [hcond] at h
      simp only [cond_false] at h
      unfold anyOf at h
      split at h
      case isFalse => cases h
      rename_i hex
      rw [if_neg (by omega)] at h
      have hk := (Classical.choose_spec hex i hi).trans h
      have hkv : (en.key, en.val) = (Value.string (left.getD i default).1, Value.int .i64 (left.getD i default).2) := by
        have := congrArg (·[i]?) h6
        simp only [List.getElem?_map, hF, List.getElem?_eq_getElem hi, Option.map_some, Option.some.injEq] at this
        rw [this]
        simp [List.getD, List.getElem?_eq_getElem hi]
      obtain ⟨k1, k2⟩ := Prod.mk.inj hkv
      let w2 : World := { w1 with heap := w1.heap.setIfInBounds g (.mapIter (some m) es.length (seen.push en.born) es.length) }
      have hh : w1.heap = w.heap := by rcases hw1 with rfl | rfl <;> rfl
      have hother : ∀ k, k ≠ g → w2.heap[k]? = w.heap[k]? := fun k hk => by
        show (w1.heap.setIfInBounds g _)[k]? = _
        rw [Array.getElem?_setIfInBounds_ne (Ne.symm hk), hh]
      have hself : w2.heap[g]? = some (.mapIter (some m) es.length (seen.push en.born) es.length) := by
        show (w1.heap.setIfInBounds g _)[g]? = _
        rw [Array.getElem?_setIfInBounds_self_of_lt (by rw [hh]; exact hlt)]
      have hc : Kp fz w w2 := by
        refine ⟨fun g' o v hz hcell => ?_, fun g' es' c hz hm' => ?_⟩
        · have hne : g' ≠ g := fun e => h3 o (e ▸ hz)
          rw [World.cell?_of_block (w := w) (a := ⟨g', o, none⟩) (hother g' hne)]
          exact hcell
        · have hne : g' ≠ g := fun e => h3 0 (e ▸ hz)
          rw [hother g' hne]
          exact hm'
      have hmg : m ≠ g := fun e => h3 0 (e ▸ h5)
      have hfilt : (((mapEs 0 es).filter fun e => !(seen.push en.born).contains e.born).map fun e => (e.key, e.val)) = (left.eraseIdx i).map fun p => (Value.string p.1, Value.int .i64 p.2) := by
        have hnd : (((mapEs 0 es).filter fun e => !seen.contains e.born).map (·.born)).Nodup := (mapEs_born es 0).2.sublist (List.Sublist.map _ List.filter_sublist)
        rw [filter_push, erase_born _ i en hnd hF, erase_map, h6, ← erase_map]
      have hmem : en ∈ mapEs 0 es := (List.mem_filter.1 (List.mem_of_getElem? hF)).1
      have hsz : w2.heap.size = w.heap.size := by show (w1.heap.setIfInBounds g _).size = _; rw [Array.size_setIfInBounds, hh]
      have ho : w2.os = w.os ∧ w2.tape = w.tape ∧ w2.output = w.output := by rcases hw1 with rfl | rfl <;> exact ⟨rfl, rfl, rfl⟩
      refine ⟨_, _, .tuple #[.bool true, en.key, en.val], w2, fz, ρ, hk, ?_, S.put hlive h1 (.of rfl) (by rw [hsz]; exact Nat.le_refl _) hother hc ⟨g, m, seen.push en.born, h1, hself, h3, (hother m hmg).trans h4, h5, hfilt, fun p hp => ?_⟩, ⟨ho.1, ho.2.1, ho.2.2, by rw [hsz]; exact Nat.le_refl _, fun k _ hn => hother k fun e => hn (e ▸ S.hp.wr b _ g hlive h1 (.of rfl)), hc, .refl⟩, .refl ρ, .inl ?_⟩
      · rw [k1, k2]
        exact ⟨_, rfl, .bool _, .str _, .int _ _, trivial⟩
      · cases hp
        exact ⟨en, hmem, by simp, k1, k2⟩
      · simp [execOp, hop, hv', hrun, w2]

theorem cont_nil (S : Sim C.P w fz ρ Wr a st) {l : L} {v : Value} {t : TypeId} {ys : List (List L)} (h : cont st.hp l = some (t, ys)) (hv : Rep C.P w fz ρ v l) : ∃ A c, v = .slice A ys.length c ∧ (A = none → ys = []) := by
  cases l with
  | lst t' xs =>
    simp only [cont, Option.some.injEq, Prod.mk.injEq] at h
    obtain ⟨rfl, rfl⟩ := h
    cases hv with
    | lst A n c _ _ u ad h1 h2 h3 h4 h5 h6 h7 =>
      subst h1
      refine ⟨A, c, rfl, fun e => ?_⟩
      by_cases hx : xs = []
      · exact hx
      · rw [h4 hx] at e; cases e
  | row r =>
    simp only [cont] at h
    split at h
    · rename_i t' xs ex hb
      simp only [Option.some.injEq, Prod.mk.injEq] at h
      obtain ⟨rfl, rfl⟩ := h
      have hB := S.hp.blk r
      rw [hb] at hB
      obtain ⟨rv, us, h1, h2, _⟩ := hB
      cases hv with
      | row _ _ u hx hl =>
        rw [h1] at hx; cases hx
        rcases hl.own h2 with rfl | ⟨rfl, hn, _, a, rfl⟩
        · rcases h2.2 with ⟨rfl, hn⟩ | ⟨g, cap, cur, rfl, _⟩
          · exact ⟨none, 0, by rw [hn], fun _ => List.eq_nil_of_length_eq_zero hn⟩
          · exact ⟨_, cap, rfl, fun e => by cases e⟩
        · exact ⟨some a, 0, by rw [hn], fun e => by cases e⟩
    · cases h
  | _ => simp [cont] at h
theorem both_some {a b : R} {r : List L} (h : both a b = some r) : a = some r ∧ b = some r := by
  unfold both at h
  split at h
  · rename_i e
    exact ⟨h, e ▸ h⟩
  · cases h
theorem run_eql_slice_nil (P : Program) (w : World) (t e : TypeId) (a : Option Addr) (l c : Nat) (h : P.underlying t = some (.slice e)) : (binOp .eql t (.slice a l c) (.slice none 0 0)).run P w = .ok (.bool a.isNone) w := by
  simp [binOp, run_equal_slice_nil w t e a l c h]
theorem nilEq_ok {G : Req → R} (S : Sim C.P w fz ρ Wr a st) {o : Oper} {κ : D → St → R} {r : List L} {op : BinOp} {t : TypeId} {x : Operand} {ty : TypeId} (hop : o.op = .binOp op t x (.const (.slice none 0 0)) ty) (h : effA C G o st κ = some r) : OpOk C w fz ρ Wr a o κ r := by
  simp only [effA, hop] at h
  have key : ∀ (y : Bool) (e : TypeId) (t' : TypeId) (xs : List (List L)), elemT C t = some e → cont st.hp (st.leaf x) = some (t', xs) → nilEq xs.length y st κ = some r → ∃ A n c, a.eval x = .slice A n c ∧ κ (.lf (.bool (if A.isNone then y else !y))) st = some r := by
    intro y e t' xs _ hc hn
    obtain ⟨A, c, hv, hA⟩ := cont_nil S hc (S.leaf x)
    refine ⟨A, _, c, hv, ?_⟩
    unfold nilEq at hn
    cases A with
    | none =>
      have := hA rfl
      subst this
      simp only [List.length_nil, Nat.beq, cond_true] at hn
      exact (both_some hn).1
    | some ad =>
      cases hb : Nat.beq xs.length 0 with
      | true => rw [hb] at hn; exact (both_some hn).2
      | false => rw [hb] at hn; exact hn
  split at h
  · rename_i e t' xs he hc
    obtain ⟨A, n, c, hv, hk⟩ := key true e t' xs he hc h
    have hu := elemT_under he
    refine ⟨_, _, .bool A.isNone, w, fz, ρ, hk, ?_, S, .refl _ _ _, .refl ρ, .inl ?_⟩
    · cases A <;> exact .bool _
    · simp [execOp, hop, Act.eval, eqGuard] at hv ⊢
      simp [hv, run_eql_slice_nil _ _ _ _ _ _ _ hu]
  · rename_i e t' xs he hc
    obtain ⟨A, n, c, hv, hk⟩ := key false e t' xs he hc h
    have hu := elemT_under he
    refine ⟨_, _, .bool (!A.isNone), w, fz, ρ, hk, ?_, S, .refl _ _ _, .refl ρ, .inl ?_⟩
    · cases A <;> exact .bool _
    · simp [execOp, hop, Act.eval, eqGuard] at hv ⊢
      simp [hv, run_neq_slice_nil _ _ _ _ _ _ hu, Option.not_isNone]
  · cases h

end
end Go.Ab
namespace Go.Ab

theorem renLs_map (f : Nat → Nat) : ∀ ls : List L, renLs f ls = ls.map (renL f)
  | [] => by simp [renLs]
  | l :: ls => by simp [renLs, renLs_map f ls]
theorem renLs_get (f : Nat → Nat) (ls : List L) (i : Nat) (l : L) (h : ls[i]? = some l) : (renLs f ls)[i]? = some (renL f l) := by
  rw [renLs_map]; simp [h]

mutual
theorem rep_ren_aux (P : Program) (w : World) (fz : Fz) (ρ ρ' : Rho) (f : Nat → Nat) : ∀ (l : L) (v : Value), (∀ b ∈ refsL l, ρ' (f b) = ρ b) → (Rep P w fz ρ v l ↔ Rep P w fz ρ' v (renL f l))
  | .row r, v, h => by
    have e := h r (by simp [refsL])
    simp only [renL]
    constructor
    · intro x; cases x with | row _ _ u hx hl => exact .row _ _ u (e ▸ hx) hl
    · intro x; cases x with | row _ _ u hx hl => exact .row _ _ u (e ▸ hx) hl
  | .ptr b o, v, h => by
    have e := h b (by simp [refsL])
    simp only [renL]
    constructor
    · intro x; cases x with | ptr _ _ ad hx => exact .ptr _ _ ad (e ▸ hx)
    · intro x; cases x with | ptr _ _ ad hx => exact .ptr _ _ ad (e ▸ hx)
  | .aptr b c n i, v, h => by
    have e := h b (by simp [refsL])
    simp only [renL]
    constructor
    · intro x; cases x with | aptr _ _ _ _ ad hx hi => exact .aptr _ _ _ _ ad (e ▸ hx) hi
    · intro x; cases x with | aptr _ _ _ _ ad hx hi => exact .aptr _ _ _ _ ad (e ▸ hx) hi
  | .rptr r t i o, v, h => by
    have e := h r (by simp [refsL])
    simp only [renL]
    constructor
    · intro x; cases x with | rptr _ _ _ _ ad n c hx hi => exact .rptr _ _ _ _ ad n c (e ▸ hx) hi
    · intro x; cases x with | rptr _ _ _ _ ad n c hx hi => exact .rptr _ _ _ _ ad n c (e ▸ hx) hi
  | .ars r, v, h => by
    have e := h r (by simp [refsL])
    simp only [renL]
    constructor
    · intro x; cases x with | ars _ A n c u hx hl => exact .ars _ A n c u (e ▸ hx) hl
    · intro x; cases x with | ars _ A n c u hx hl => exact .ars _ A n c u (e ▸ hx) hl
  | .elp r t i o, v, h => by
    have e := h r (by simp [refsL])
    simp only [renL]
    constructor
    · intro x; cases x with | elp _ _ _ _ ad n c hx hi => exact .elp _ _ _ _ ad n c (e ▸ hx) hi
    · intro x; cases x with | elp _ _ _ _ ad n c hx hi => exact .elp _ _ _ _ ad n c (e ▸ hx) hi
  | .mat r, v, h => by
    have e := h r (by simp [refsL])
    simp only [renL]
    constructor
    · intro x; cases x with | mat _ A n c us hx => exact .mat _ A n c us (e ▸ hx)
    · intro x; cases x with | mat _ A n c us hx => exact .mat _ A n c us (e ▸ hx)
  | .mptr r i, v, h => by
    have e := h r (by simp [refsL])
    simp only [renL]
    constructor
    · intro x; cases x with | mptr _ _ ad n c us hx hi => exact .mptr _ _ ad n c us (e ▸ hx) hi
    · intro x; cases x with | mptr _ _ ad n c us hx hi => exact .mptr _ _ ad n c us (e ▸ hx) hi
  | .mrow r i, v, h => by
    have e := h r (by simp [refsL])
    simp only [renL]
    constructor
    · intro x; cases x with | mrow _ _ v us A n c hx hi => exact .mrow _ _ v us A n c (e ▸ hx) hi
    · intro x; cases x with | mrow _ _ v us A n c hx hi => exact .mrow _ _ v us A n c (e ▸ hx) hi
  | .mel r t i j o, v, h => by
    have e := h r (by simp [refsL])
    simp only [renL]
    constructor
    · intro x; cases x with | mel _ _ _ _ _ v us ad n c hx hi hj => exact .mel _ _ _ _ _ v us ad n c (e ▸ hx) hi hj
    · intro x; cases x with | mel _ _ _ _ _ v us ad n c hx hi hj => exact .mel _ _ _ _ _ v us ad n c (e ▸ hx) hi hj
  | .slf b o, v, h => by
    have e := h b (by simp [refsL])
    simp only [renL]
    constructor
    · intro x; cases x with | slf _ _ ad _ hx hv => exact .slf _ _ ad _ (e ▸ hx) hv
    · intro x; cases x with | slf _ _ ad _ hx hv => exact .slf _ _ ad _ (e ▸ hx) hv
  | .clo g cs, v, h => by
    simp only [renL]
    have hh := rep_ren_auxs P w fz ρ ρ' f cs (by simpa [refsL] using h)
    constructor
    · intro x
      cases x with
      | clo _ vs _ h1 h2 =>
        refine .clo g vs _ (by rw [h1, hh.1]) fun i l hl => ?_
        obtain ⟨l0, h3, rfl⟩ := hh.2.1 i l hl
        exact (hh.2.2 i l0 h3 _).1 (h2 i l0 h3)
    · intro x
      cases x with
      | clo _ vs _ h1 h2 =>
        refine .clo g vs _ (by rw [h1, hh.1]) fun i l hl => ?_
        have h3 : (renLs f cs)[i]? = some (renL f l) := renLs_get f cs i l hl
        exact (hh.2.2 i l hl _).2 (h2 i _ h3)
  | .int k n, v, _ => ⟨fun x => by cases x; exact .int k n, fun x => by cases x; exact .int k n⟩
  | .bool b, v, _ => ⟨fun x => by cases x; exact .bool b, fun x => by cases x; exact .bool b⟩
  | .str s, v, _ => ⟨fun x => by cases x; exact .str s, fun x => by cases x; exact .str s⟩
  | .lst t xs, v, _ => ⟨fun x => x.mono P (Kp.refl _ _) (fun _ _ h => h) (by simp [refsL]), fun x => x.mono P (Kp.refl _ _) (fun _ _ h => h) (by simp [renL, refsL])⟩
  | .nils t, v, _ => ⟨fun x => by cases x; exact .nils t, fun x => by cases x; exact .nils t⟩
  | .eptr t e o, v, _ => ⟨fun x => x.mono P (Kp.refl _ _) (fun _ _ h => h) (by simp [refsL]), fun x => x.mono P (Kp.refl _ _) (fun _ _ h => h) (by simp [renL, refsL])⟩
  | .mp es, v, _ => ⟨fun x => x.mono P (Kp.refl _ _) (fun _ _ h => h) (by simp [refsL]), fun x => x.mono P (Kp.refl _ _) (fun _ _ h => h) (by simp [renL, refsL])⟩
  | .nilp, v, _ => ⟨fun x => by cases x; exact .nilp, fun x => by cases x; exact .nilp⟩
  | .nilf, v, _ => ⟨fun x => by cases x; exact .nilf, fun x => by cases x; exact .nilf⟩
  | .any, v, _ => ⟨fun _ => .any v, fun _ => .any v⟩
theorem rep_ren_auxs (P : Program) (w : World) (fz : Fz) (ρ ρ' : Rho) (f : Nat → Nat) : ∀ (ls : List L), (∀ b ∈ refsLs ls, ρ' (f b) = ρ b) →
    (renLs f ls).length = ls.length ∧ (∀ (i : Nat) l, (renLs f ls)[i]? = some l → ∃ l0, ls[i]? = some l0 ∧ l = renL f l0) ∧
    (∀ (i : Nat) l, ls[i]? = some l → ∀ v, (Rep P w fz ρ v l ↔ Rep P w fz ρ' v (renL f l)))
  | [], _ => by simp [renLs]
  | l :: ls, h => by
    have h1 := rep_ren_aux P w fz ρ ρ' f l
    have h2 := rep_ren_auxs P w fz ρ ρ' f ls (fun b hb => h b (by simp only [refsLs, List.mem_append]; exact .inr hb))
    refine ⟨by simp [renLs, h2.1], fun i x hx => ?_, fun i x hx v => ?_⟩
    · cases i with
      | zero => simp only [renLs, List.getElem?_cons_zero, Option.some.injEq] at hx; exact ⟨l, rfl, hx.symm⟩
      | succ i => simpa using h2.2.1 i x (by simpa [renLs] using hx)
    · cases i with
      | zero => simp only [List.getElem?_cons_zero, Option.some.injEq] at hx; subst hx; exact h1 v (fun b hb => h b (by simp only [refsLs, List.mem_append]; exact .inl hb))
      | succ i => exact h2.2.2 i x (by simpa using hx) v
end


section
variable {P : Program} {w w' : World} {fz fz' : Fz} {ρ ρ' : Rho} {Wr : Nat → Prop}

def OwnS (P : Program) (w : World) (fz : Fz) (t : TypeId) (v : Value) (xs : List (List L)) : Prop :=
  ∃ us, w.ownsRow 0 t (kinds P t).length v xs.length us ∧ RepLs (Rep P w fz fun _ => none) us xs.flatten ∧ (∀ e ∈ xs, Conf P t e) ∧ 0 < (kinds P t).length ∧ sizeT P t = (kinds P t).length ∧
    ∀ g o, bk v = some g → ¬ fz g o

def Bk (P : Program) (w : World) (fz : Fz) (own : Bool) : List K → List Value → List L → List Nat → Prop
  | [], [], _, gs => gs = []
  | .sl t :: ks, u :: us, r, gs =>
    if own then ∃ xs gs' u', Like u u' ∧ r.headD .any = .lst t xs ∧ OwnS P w fz t u' xs ∧ gs = (bk u').toList ++ gs' ∧ Bk P w fz own ks us r.tail gs'
    else HasK (.sl t) (r.headD .any) ∧ Rep P w fz (fun _ => none) u (r.headD .any) ∧ Bk P w fz own ks us r.tail gs
  | .oth :: ks, _ :: us, r, gs => Bk P w fz own ks us r.tail gs
  | k :: ks, u :: us, r, gs => HasK k (r.headD .any) ∧ Rep P w fz (fun _ => none) u (r.headD .any) ∧ Bk P w fz own ks us r.tail gs
  | _, _, _, _ => False

def Lives (ρ : Rho) (hp : List B) (g : Nat) : Prop := ∃ b u, hp.getD b .dead ≠ .dead ∧ ρ b = some u ∧ Bl u g

theorem HSim.addSame {hp : List B} (H : HSim P w fz ρ Wr hp) {v : Value} {B : B} (h1 : v.oneCell' = true) (hb : ∀ g, Bl v g → Wr g ∧ ¬ Lives ρ hp g)
    (hB : BS P w fz (fun i => if i = hp.length then some v else ρ i) hp.length B) :
    HSim P w fz (fun i => if i = hp.length then some v else ρ i) Wr (hp ++ [B]) ∧ ∀ g, Lives (fun i => if i = hp.length then some v else ρ i) (hp ++ [B]) g → Lives ρ hp g ∨ Bl v g := by
  have hρ : ∀ b u, ρ b = some u → (fun i => if i = hp.length then some v else ρ i) b = some u := by
    intro b u hu
    have : b ≠ hp.length := fun e => by rw [H.out b (by omega)] at hu; cases hu
    simp [this, hu]
  have hlive : ∀ b, b ≠ hp.length → (hp ++ [B]).getD b .dead ≠ .dead → b < hp.length ∧ (hp ++ [B]).getD b .dead = hp.getD b .dead := by
    intro b hne h
    have := live_lt h
    simp at this
    have hb : b < hp.length := by omega
    exact ⟨hb, by simp [List.getD, List.getElem?_append_left hb]⟩
  have hlast : (hp ++ [B]).getD hp.length .dead = B := by simp [List.getD]
  refine ⟨⟨?_, ?_, ?_, ?_, ?_, H.lt⟩, ?_⟩
  · intro b u hu
    split at hu
    · cases hu; exact h1
    · exact H.one b u hu
  · intro b hb'
    simp at hb'
    rw [if_neg (by omega)]
    exact H.out b (by omega)
  · intro b
    by_cases e : b = hp.length
    · subst e; rw [hlast]; exact hB
    · by_cases hd : (hp ++ [B]).getD b .dead = .dead
      · rw [hd]; trivial
      · obtain ⟨h2, h3⟩ := hlive b e hd
        rw [h3]
        exact (H.blk b).mono P (Kp.refl _ _) (fun _ _ h => h) (hρ b) (fun u g hu hg => ⟨rfl, fun _ h => h⟩) (fun i _ u hu => hρ i u hu)
  · intro b c v1 u1 g hne hb1 hc1 hv1 hu1 hg hg2
    by_cases e : b = hp.length
    · have e2 : c ≠ hp.length := fun e2 => hne (e.trans e2.symm)
      rw [if_pos e] at hv1
      rw [if_neg e2] at hu1
      cases hv1
      obtain ⟨h2, h3⟩ := hlive c e2 hc1
      exact (hb g hg).2 ⟨c, u1, by rw [← h3]; exact hc1, hu1, hg2⟩
    · obtain ⟨h2, h3⟩ := hlive b e hb1
      rw [if_neg e] at hv1
      by_cases e2 : c = hp.length
      · rw [if_pos e2] at hu1
        cases hu1
        exact (hb g hg2).2 ⟨b, v1, by rw [← h3]; exact hb1, hv1, hg⟩
      · rw [if_neg e2] at hu1
        obtain ⟨h4, h5⟩ := hlive c e2 hc1
        exact H.dis b c v1 u1 g hne (by rw [← h3]; exact hb1) (by rw [← h5]; exact hc1) hv1 hu1 hg hg2
  · intro b u g hb1 hu hg
    by_cases e : b = hp.length
    · rw [if_pos e] at hu
      cases hu
      exact (hb g hg).1
    · rw [if_neg e] at hu
      obtain ⟨h2, h3⟩ := hlive b e hb1
      exact H.wr b u g (by rw [← h3]; exact hb1) hu hg
  · rintro g ⟨b, u, hb1, hu, hg⟩
    by_cases e : b = hp.length
    · simp only [if_pos e] at hu
      cases hu
      exact .inr hg
    · simp only [if_neg e] at hu
      obtain ⟨h2, h3⟩ := hlive b e hb1
      exact .inl ⟨b, u, by rw [← h3]; exact hb1, hu, hg⟩

structure Grow (P : Program) (w : World) (fz : Fz) (Wr : Nat → Prop) (ρ : Rho) (hp : List B) (ρ' : Rho) (hp' : List B) (gs : List Nat) : Prop where
  sim : HSim P w fz ρ' Wr hp'
  le : ∀ b v, ρ b = some v → ρ' b = some v
  pre : ∃ tl, hp' = hp ++ tl
  lives : ∀ g, Lives ρ' hp' g → Lives ρ hp g ∨ g ∈ gs
theorem Grow.refl {hp : List B} (H : HSim P w fz ρ Wr hp) : Grow P w fz Wr ρ hp ρ hp [] := ⟨H, fun _ _ h => h, ⟨[], by simp⟩, fun _ h => .inl h⟩
theorem Grow.trans {hp hp1 hp2 : List B} {ρ1 ρ2 : Rho} {g1 g2 : List Nat} (h : Grow P w fz Wr ρ hp ρ1 hp1 g1) (k : Grow P w fz Wr ρ1 hp1 ρ2 hp2 g2) : Grow P w fz Wr ρ hp ρ2 hp2 (g1 ++ g2) :=
  ⟨k.sim, fun b v x => k.le b v (h.le b v x), by
    obtain ⟨t1, e1⟩ := h.pre
    obtain ⟨t2, e2⟩ := k.pre
    exact ⟨t1 ++ t2, by rw [e2, e1, List.append_assoc]⟩, fun g x => by
    rcases k.lives g x with y | y
    · rcases h.lives g y with z | z
      · exact .inl z
      · exact .inr (List.mem_append.2 (.inl z))
    · exact .inr (List.mem_append.2 (.inr y))⟩

theorem grow_row {hp : List B} (H : HSim P w fz ρ Wr hp) {t : TypeId} {v : Value} {xs : List (List L)} (ho : OwnS P w fz t v xs) (hg : ∀ g, bk v = some g → Wr g ∧ ¬ Lives ρ hp g) :
    Grow P w fz Wr ρ hp (fun i => if i = hp.length then some v else ρ i) (hp ++ [.row t xs true]) (bk v).toList := by
  obtain ⟨us, h1, h2, h3, h4, h5, h6⟩ := ho
  have hA := H.addSame (v := v) (B := .row t xs true) (by rcases h1.2 with ⟨rfl, _⟩ | ⟨_, _, _, rfl, _⟩ <;> rfl) (fun g h => hg g (h.own h1))
    ⟨v, us, by simp, h1, h2.mono fun u l hl hu => by
      obtain ⟨e, he, hle⟩ := List.mem_flatten.1 hl
      obtain ⟨kk, hk⟩ := HasKs.mem (h3 e he) l hle
      exact hu.of_hasK P hk, h3, h4, h5, fun g o hg ho => absurd ho (h6 g o hg), fun h => by cases h⟩
  refine ⟨hA.1, fun b u hu => ?_, ⟨_, rfl⟩, fun g x => ?_⟩
  · have : b ≠ hp.length := fun e => by rw [H.out b (by omega)] at hu; cases hu
    simp [this, hu]
  · rcases hA.2 g x with y | y
    · exact .inl y
    · exact .inr (by simp [y.own h1])

theorem rep_le {v : Value} {l : L} (h : Rep P w fz ρ v l) (hle : ∀ b v, ρ b = some v → ρ' b = some v) : Rep P w fz ρ' v l :=
  h.mono P (Kp.refl _ _) (fun _ _ h => h) fun b _ v hv => hle b v hv

theorem backLs_sound {own : Bool} : ∀ {ks : List K} {us : List Value} {r : List L} {gs : List Nat} {hp hp' : List B} {ls : List L} {ρ : Rho}, HSim P w fz ρ Wr hp → Bk P w fz own ks us r gs →
    backLs own ks r hp = some (ls, hp') → gs.Nodup → (∀ g ∈ gs, Wr g ∧ ¬ Lives ρ hp g) → ∃ ρ', Grow P w fz Wr ρ hp ρ' hp' gs ∧ RepLs (Rep P w fz ρ') us ls
  | [], [], r, gs, hp, hp', ls, ρ, H, hb, h, _, _ => by
    simp only [backLs, Option.some.injEq, Prod.mk.injEq] at h
    obtain ⟨rfl, rfl⟩ := h
    simp only [Bk] at hb
    subst hb
    exact ⟨ρ, .refl H, trivial⟩
  | [], _ :: _, _, _, _, _, _, _, _, hb, _, _, _ => by simp [Bk] at hb
  | k :: ks, [], _, _, _, _, _, _, _, hb, _, _, _ => by cases k <;> simp [Bk] at hb
  | k :: ks, u :: us, r, gs, hp, hp', ls, ρ, H, hb, h, hnd, hgs => by
    have scalar : (∀ t, k ≠ .sl t) → k ≠ .oth → ∃ ρ', Grow P w fz Wr ρ hp ρ' hp' gs ∧ RepLs (Rep P w fz ρ') (u :: us) ls := by
      intro k1 k2
      have hb' : HasK k (r.headD .any) ∧ Rep P w fz (fun _ => none) u (r.headD .any) ∧ Bk P w fz own ks us r.tail gs := by
        cases k <;> simp only [Bk] at hb <;> first | exact hb | exact absurd rfl (k1 _) | exact absurd rfl k2
      obtain ⟨b1, b2, b3⟩ := hb'
      have h' : ∃ ls1, backLs own ks r.tail hp = some (ls1, hp') ∧ ls = k.proj (r.headD .any) :: ls1 := by
        cases k <;> simp only [backLs] at h <;> first
          | exact absurd rfl (k1 _)
          | exact absurd rfl k2
          | (split at h
             · rename_i ls1 hp1 e1
               simp only [Option.some.injEq, Prod.mk.injEq] at h
               obtain ⟨rfl, rfl⟩ := h
               exact ⟨ls1, e1, rfl⟩
             · cases h)
      obtain ⟨ls1, e1, rfl⟩ := h'
      obtain ⟨ρ', g1, g2⟩ := backLs_sound H b3 e1 hnd hgs
      refine ⟨ρ', g1, ?_, g2⟩
      rw [b1.proj]
      exact b2.of_hasK P b1
    cases k with
    | int k => exact scalar (by simp) (by simp)
    | bool => exact scalar (by simp) (by simp)
    | str => exact scalar (by simp) (by simp)
    | mp => exact scalar (by simp) (by simp)
    | oth =>
      simp only [Bk] at hb
      simp only [backLs] at h
      split at h
      · rename_i ls1 hp1 e1
        simp only [Option.some.injEq, Prod.mk.injEq] at h
        obtain ⟨rfl, rfl⟩ := h
        obtain ⟨ρ', g1, g2⟩ := backLs_sound H hb e1 hnd hgs
        exact ⟨ρ', g1, .any u, g2⟩
      · cases h
    | sl t =>
      simp only [Bk] at hb
      simp only [backLs] at h
      cases own with
      | true =>
        simp only [if_true] at hb h
        obtain ⟨xs, gs', u', hlk, b1, b2, rfl, b3⟩ := hb
        rw [b1] at h
        simp only [L.toLst] at h
        split at h
        · rename_i ls1 hp1 e1
          simp only [Option.some.injEq, Prod.mk.injEq] at h
          obtain ⟨rfl, rfl⟩ := h
          have g0 := grow_row H b2 (fun g hg => hgs g (by simp [hg]))
          have hnd' := List.nodup_append.1 hnd
          obtain ⟨ρ', g1, g2⟩ := backLs_sound g0.sim b3 e1 hnd'.2.1 (fun g hg => ⟨(hgs g (by simp [hg])).1, fun hl => by
            rcases g0.lives g hl with y | y
            · exact (hgs g (by simp [hg])).2 y
            · exact hnd'.2.2 g y g hg rfl⟩)
          refine ⟨ρ', g0.trans g1, .row _ _ u' (g1.le _ _ (by simp)) hlk, g2⟩
        · cases h
      | false =>
        simp only [Bool.false_eq_true, if_false] at hb h
        obtain ⟨b1, b2, b3⟩ := hb
        split at h
        · rename_i ls1 hp1 e1
          simp only [Option.some.injEq, Prod.mk.injEq] at h
          obtain ⟨rfl, rfl⟩ := h
          obtain ⟨ρ', g1, g2⟩ := backLs_sound H b3 e1 hnd hgs
          refine ⟨ρ', g1, ?_, g2⟩
          have := b1.proj
          simp only [K.proj] at this
          rw [this]
          exact b2.of_hasK P b1
        · cases h

end
end Go.Ab
namespace Go.Ab
section
variable {C : Cfg} {w w' : World} {fz fz' : Fz} {ρ ρ' : Rho} {Wr : Nat → Prop}

def Vals (P : Program) : List TypeId → List Value → List Value → Prop
  | [], [], us => us = []
  | t :: ts, x :: xs, us => ∃ u1 u2, us = u1 ++ u2 ∧ u1.length = (kinds P t).length ∧ 0 < (kinds P t).length ∧ x = (if isAggT P t then .agg u1.toArray else u1.headD undef) ∧ Vals P ts xs u2
  | _, _, _ => False
def retV : List Value → Value
  | [v] => v
  | vs => .tuple vs.toArray

theorem Bk.split {own : Bool} : ∀ {ks ks' : List K} {us us' : List Value} {r : List L} {gs : List Nat}, us.length = ks.length → Bk C.P w fz own (ks ++ ks') (us ++ us') r gs →
    ∃ g1 g2, gs = g1 ++ g2 ∧ Bk C.P w fz own ks us r g1 ∧ Bk C.P w fz own ks' us' (r.drop ks.length) g2
  | [], ks', [], us', r, gs, _, h => ⟨[], gs, rfl, by simp [Bk], by simpa using h⟩
  | [], _, _ :: _, _, _, _, hl, _ => by simp at hl
  | _ :: _, _, [], _, _, _, hl, _ => by simp at hl
  | k :: ks, ks', u :: us, us', r, gs, hl, h => by
    have hl' : us.length = ks.length := by simpa using hl
    have hd : r.tail.drop ks.length = r.drop (ks.length + 1) := by cases r <;> simp
    cases k with
    | sl t =>
      simp only [List.cons_append, Bk] at h
      cases own with
      | true =>
        simp only [if_true] at h
        obtain ⟨xs, gs', u', hk, a, b, rfl, c⟩ := h
        obtain ⟨g1, g2, rfl, d, e⟩ := Bk.split hl' c
        exact ⟨(bk u').toList ++ g1, g2, by simp, by simp only [Bk, if_true]; exact ⟨xs, g1, u', hk, a, b, rfl, d⟩, by rw [List.length_cons, ← hd]; exact e⟩
      | false =>
        simp only [Bool.false_eq_true, if_false] at h
        obtain ⟨a, b, c⟩ := h
        obtain ⟨g1, g2, rfl, d, e⟩ := Bk.split hl' c
        exact ⟨g1, g2, rfl, by simp only [Bk, Bool.false_eq_true, if_false]; exact ⟨a, b, d⟩, by rw [List.length_cons, ← hd]; exact e⟩
    | oth =>
      simp only [List.cons_append, Bk] at h
      obtain ⟨g1, g2, rfl, d, e⟩ := Bk.split hl' h
      exact ⟨g1, g2, rfl, by simp only [Bk]; exact d, by rw [List.length_cons, ← hd]; exact e⟩
    | int k =>
      simp only [List.cons_append, Bk] at h
      obtain ⟨a, b, c⟩ := h
      obtain ⟨g1, g2, rfl, d, e⟩ := Bk.split hl' c
      exact ⟨g1, g2, rfl, by simp only [Bk]; exact ⟨a, b, d⟩, by rw [List.length_cons, ← hd]; exact e⟩
    | bool =>
      simp only [List.cons_append, Bk] at h
      obtain ⟨a, b, c⟩ := h
      obtain ⟨g1, g2, rfl, d, e⟩ := Bk.split hl' c
      exact ⟨g1, g2, rfl, by simp only [Bk]; exact ⟨a, b, d⟩, by rw [List.length_cons, ← hd]; exact e⟩
    | mp =>
      simp only [List.cons_append, Bk] at h
      obtain ⟨a, b, c⟩ := h
      obtain ⟨g1, g2, rfl, d, e⟩ := Bk.split hl' c
      exact ⟨g1, g2, rfl, by simp only [Bk]; exact ⟨a, b, d⟩, by rw [List.length_cons, ← hd]; exact e⟩
    | str =>
      simp only [List.cons_append, Bk] at h
      obtain ⟨a, b, c⟩ := h
      obtain ⟨g1, g2, rfl, d, e⟩ := Bk.split hl' c
      exact ⟨g1, g2, rfl, by simp only [Bk]; exact ⟨a, b, d⟩, by rw [List.length_cons, ← hd]; exact e⟩

theorem backD_sound {own : Bool} : ∀ {ts : List TypeId} {vals us : List Value} {r r' : List L} {gs : List Nat} {hp hp' : List B} {ds : List D} {ρ : Rho}, HSim C.P w fz ρ Wr hp →
    Vals C.P ts vals us → Bk C.P w fz own (ts.flatMap (kinds C.P)) us r gs → backD C own ts r hp = some (ds, r', hp') → gs.Nodup → (∀ g ∈ gs, Wr g ∧ ¬ Lives ρ hp g) →
    ∃ ρ', Grow C.P w fz Wr ρ hp ρ' hp' gs ∧ RepDs (Rep C.P w fz ρ') vals ds ∧ r' = r.drop (ts.flatMap (kinds C.P)).length
  | [], [], us, r, r', gs, hp, hp', ds, ρ, H, hv, hb, h, _, _ => by
    simp only [backD, Option.some.injEq, Prod.mk.injEq] at h
    obtain ⟨rfl, rfl, rfl⟩ := h
    simp only [Vals] at hv
    subst hv
    simp only [List.flatMap_nil, Bk] at hb
    subst hb
    exact ⟨ρ, .refl H, by simp [RepDs], by simp⟩
  | [], _ :: _, _, _, _, _, _, _, _, _, _, hv, _, _, _, _ => by simp [Vals] at hv
  | _ :: _, [], _, _, _, _, _, _, _, _, _, hv, _, _, _, _ => by simp [Vals] at hv
  | t :: ts, x :: vals, us, r, r', gs, hp, hp', ds, ρ, H, hv, hb, h, hnd, hgs => by
    obtain ⟨u1, u2, rfl, hl, h0, rfl, hv2⟩ := hv
    simp only [List.flatMap_cons] at hb
    obtain ⟨g1, g2, rfl, b1, b2⟩ := Bk.split (C := C) hl hb
    simp only [backD] at h
    split at h
    · cases h
    split at h
    · rename_i ls hp1 e1
      split at h
      · rename_i ds1 r1 hp2 e2
        simp only [Option.some.injEq, Prod.mk.injEq] at h
        obtain ⟨rfl, rfl, rfl⟩ := h
        have hnd' := List.nodup_append.1 hnd
        obtain ⟨ρ1, G1, R1⟩ := backLs_sound H b1 e1 hnd'.1 (fun g hg => hgs g (by simp [hg]))
        obtain ⟨ρ2, G2, R2, hr⟩ := backD_sound G1.sim hv2 b2 e2 hnd'.2.1 (fun g hg => ⟨(hgs g (by simp [hg])).1, fun hl => by
          rcases G1.lives g hl with y | y
          · exact (hgs g (by simp [hg])).2 y
          · exact hnd'.2.2 g y g hg rfl⟩)
        refine ⟨ρ2, G1.trans G2, ⟨?_, R2⟩, by rw [hr, List.drop_drop, List.flatMap_cons, List.length_append]⟩
        exact rep_mkD (by omega) (R1.mono fun v l _ hv => rep_le hv G2.le) (fun v => .any v)
      · cases h
    · cases h

def BkBox (P : Program) (w : World) (fz : Fz) (ρ : Rho) : List K → List L → List Value → List L → List Nat → Prop
  | [], _, [], _, gs => gs = []
  | .sl t :: ks, old, u :: us, r, gs => if (old.headD .any).isL = true then HasK (.sl t) (r.headD .any) ∧ Rep P w fz (fun _ => none) u (r.headD .any) ∧ BkBox P w fz ρ ks old.tail us r.tail gs else if (r.headD .any).isL = false then BkBox P w fz ρ ks old.tail us r.tail gs else ∃ xs gs' u', Like u u' ∧ r.headD .any = .lst t xs ∧ OwnS P w fz t u' xs ∧ gs = (bk u').toList ++ gs' ∧ BkBox P w fz ρ ks old.tail us r.tail gs'
  | .oth :: ks, old, u :: us, r, gs => Rep P w fz ρ u (old.headD .any) ∧ BkBox P w fz ρ ks old.tail us r.tail gs
  | k :: ks, old, u :: us, r, gs => HasK k (r.headD .any) ∧ Rep P w fz (fun _ => none) u (r.headD .any) ∧ BkBox P w fz ρ ks old.tail us r.tail gs
  | _, _, _, _, _ => False

theorem hasK_tyK {k : K} {l : L} (h : HasK k l) : TyK k l := by cases k <;> simp_all [HasK, TyK]

theorem backBox_sound : ∀ {ks : List K} {old : List L} {us : List Value} {r : List L} {gs : List Nat} {hp : List B} {ρ : Rho}, HSim C.P w fz ρ Wr hp → BkBox C.P w fz ρ ks old us r gs →
    gs.Nodup → (∀ g ∈ gs, Wr g ∧ ¬ Lives ρ hp g) →
    ∃ ρ', Grow C.P w fz Wr ρ hp ρ' (backBox ks old r hp).2 gs ∧ RepLs (Rep C.P w fz ρ') us (backBox ks old r hp).1 ∧ TyB ks (backBox ks old r hp).1
  | [], old, [], r, gs, hp, ρ, H, hb, _, _ => by
    simp only [BkBox] at hb
    subst hb
    exact ⟨ρ, .refl H, trivial, trivial⟩
  | [], _, _ :: _, _, _, _, _, _, hb, _, _ => by simp [BkBox] at hb
  | k :: ks, _, [], _, _, _, _, _, hb, _, _ => by cases k <;> simp [BkBox] at hb
  | k :: ks, old, u :: us, r, gs, hp, ρ, H, hb, hnd, hgs => by
    have up : ∀ {old : List L} {us : List Value} {r : List L} {gs : List Nat} {ks : List K} {ρ1 : Rho}, (∀ b v, ρ b = some v → ρ1 b = some v) → BkBox C.P w fz ρ ks old us r gs → BkBox C.P w fz ρ1 ks old us r gs := by
      intro old us r gs ks ρ1 hle h
      induction ks generalizing old us r gs with
      | nil => cases us <;> simp_all [BkBox]
      | cons k ks ih =>
        cases us with
        | nil => cases k <;> simp [BkBox] at h
        | cons u us =>
          cases k <;> simp only [BkBox] at h ⊢
          case sl t =>
            split at h
            · rename_i hi
              rw [if_pos hi]
              exact ⟨h.1, h.2.1, ih h.2.2⟩
            · rename_i hi
              rw [if_neg hi]
              split at h
              · rename_i hj
                rw [if_pos hj]
                exact ih h
              · rename_i hj
                rw [if_neg hj]
                obtain ⟨xs, gs', u', l, a, b, c, d⟩ := h
                exact ⟨xs, gs', u', l, a, b, c, ih d⟩
          case oth => exact ⟨rep_le h.1 hle, ih h.2⟩
          all_goals exact ⟨h.1, h.2.1, ih h.2.2⟩
    have scalar : (∀ t, k ≠ .sl t) → k ≠ .oth →
        ∃ ρ', Grow C.P w fz Wr ρ hp ρ' (backBox (k :: ks) old r hp).2 gs ∧ RepLs (Rep C.P w fz ρ') (u :: us) (backBox (k :: ks) old r hp).1 ∧ TyB (k :: ks) (backBox (k :: ks) old r hp).1 := by
      intro k1 k2
      have hb' : HasK k (r.headD .any) ∧ Rep C.P w fz (fun _ => none) u (r.headD .any) ∧ BkBox C.P w fz ρ ks old.tail us r.tail gs := by
        cases k <;> simp only [BkBox] at hb <;> first | exact hb | exact absurd rfl (k1 _) | exact absurd rfl k2
      obtain ⟨b1, b2, b3⟩ := hb'
      have e : backBox (k :: ks) old r hp = (k.proj (r.headD .any) :: (backBox ks old.tail r.tail hp).1, (backBox ks old.tail r.tail hp).2) := by
        cases k <;> first | rfl | exact absurd rfl (k1 _) | exact absurd rfl k2
      obtain ⟨ρ', g1, g2, g3⟩ := backBox_sound H b3 hnd hgs
      rw [e]
      refine ⟨ρ', g1, ⟨?_, g2⟩, ?_, g3⟩
      · rw [b1.proj]; exact b2.of_hasK C.P b1
      · rw [b1.proj]; exact hasK_tyK b1
    cases k with
    | int k => exact scalar (by simp) (by simp)
    | bool => exact scalar (by simp) (by simp)
    | str => exact scalar (by simp) (by simp)
    | mp => exact scalar (by simp) (by simp)
    | oth =>
      simp only [BkBox] at hb
      obtain ⟨ρ', g1, g2, g3⟩ := backBox_sound H hb.2 hnd hgs
      exact ⟨ρ', g1, ⟨rep_le hb.1 g1.le, g2⟩, trivial, g3⟩
    | sl t =>
      simp only [BkBox] at hb
      by_cases hi : (old.headD .any).isL = true
      · rw [if_pos hi] at hb
        obtain ⟨b1, b2, b3⟩ := hb
        have e : backBox (.sl t :: ks) old r hp = (.lst t (r.headD .any).toLst :: (backBox ks old.tail r.tail hp).1, (backBox ks old.tail r.tail hp).2) := by
          simp only [backBox, hi]
        obtain ⟨ρ', g1, g2, g3⟩ := backBox_sound H b3 hnd hgs
        rw [e]
        obtain ⟨xs, hx⟩ := b1
        refine ⟨ρ', g1, ⟨?_, g2⟩, trivial, g3⟩
        rw [hx] at b2 ⊢
        exact b2.of_hasK C.P (k := .sl t) ⟨xs, rfl⟩
      rw [if_neg hi] at hb
      by_cases hj : (r.headD .any).isL = false
      · rw [if_pos hj] at hb
        have e : backBox (.sl t :: ks) old r hp = (.any :: (backBox ks old.tail r.tail hp).1, (backBox ks old.tail r.tail hp).2) := by
          simp only [backBox, Bool.eq_false_iff.2 hi, hj]
        obtain ⟨ρ', g1, g2, g3⟩ := backBox_sound H hb hnd hgs
        rw [e]
        exact ⟨ρ', g1, ⟨.any u, g2⟩, trivial, g3⟩
      rw [if_neg hj] at hb
      obtain ⟨xs, gs', u', hlk, b1, b2, rfl, b3⟩ := hb
      have g0 := grow_row H b2 (fun g hg => hgs g (by simp [hg]))
      have hnd' := List.nodup_append.1 hnd
      obtain ⟨ρ', g1, g2, g3⟩ := backBox_sound g0.sim (up g0.le b3) hnd'.2.1 (fun g hg => ⟨(hgs g (by simp [hg])).1, fun hl => by
        rcases g0.lives g hl with y | y
        · exact (hgs g (by simp [hg])).2 y
        · exact hnd'.2.2 g y g hg rfl⟩)
      have e : backBox (.sl t :: ks) old r hp = ((.row hp.length) :: (backBox ks old.tail r.tail (hp ++ [.row t xs true])).1, (backBox ks old.tail r.tail (hp ++ [.row t xs true])).2) := by
        have hl : (L.lst t xs).isL = true := rfl
        simp only [backBox, Bool.eq_false_iff.2 hi, b1, L.toLst, hl]
      rw [e]
      exact ⟨ρ', g0.trans g1, ⟨.row _ _ u' (g1.le _ _ (by simp)) hlk, g2⟩, trivial, g3⟩


def BxC (P : Program) (w : World) (fz : Fz) (ρ : Rho) : List (Nat × B) → List L → List Nat → List Nat → Prop
  | [], _, gs, bg => gs = [] ∧ bg = []
  | (i, .box ks cs) :: bs, r, gs, bg => ∃ g us t g1 g2 bg', ρ i = some (.pointer (some ⟨g, 0, none⟩)) ∧ w.heap[g]? = some (.cells us t (0, 0)) ∧ ((∀ o, ¬ fz g o) ∧ tagB P ks t = true) ∧
      BkBox P w fz ρ ks cs us.toList r g1 ∧ gs = g1 ++ g2 ∧ bg = g :: bg' ∧ BxC P w fz ρ bs (r.drop ks.length) g2 bg'
  | (_, .row _ _ _) :: bs, r, gs, bg => BxC P w fz ρ bs r gs bg
  | (i, .arr t _) :: bs, r, gs, bg => ∃ u xs bg', ρ i = some (pinV u) ∧ r.headD .any = .lst t xs ∧ OwnS P w fz t u xs ∧ bg = (bk u).toList ++ bg' ∧ BxC P w fz ρ bs r.tail gs bg'
  | _, _, _, _ => False

theorem BkBox.le {ρ1 : Rho} (hle : ∀ b v, ρ b = some v → ρ1 b = some v) : ∀ {ks : List K} {old : List L} {us : List Value} {r : List L} {gs : List Nat}, BkBox C.P w fz ρ ks old us r gs → BkBox C.P w fz ρ1 ks old us r gs
  | [], _, [], _, _, h => by simpa [BkBox] using h
  | [], _, _ :: _, _, _, h => by simp [BkBox] at h
  | k :: _, _, [], _, _, h => by cases k <;> simp [BkBox] at h
  | k :: ks, old, u :: us, r, gs, h => by
    cases k <;> simp only [BkBox] at h ⊢
    case sl t =>
      split at h
      · rename_i hi
        rw [if_pos hi]
        exact ⟨h.1, h.2.1, BkBox.le hle h.2.2⟩
      · rename_i hi
        rw [if_neg hi]
        split at h
        · rename_i hj
          rw [if_pos hj]
          exact BkBox.le hle h
        · rename_i hj
          rw [if_neg hj]
          obtain ⟨xs, gs', u', l, a, b, c, d⟩ := h
          exact ⟨xs, gs', u', l, a, b, c, BkBox.le hle d⟩
    case oth => exact ⟨rep_le h.1 hle, BkBox.le hle h.2⟩
    all_goals exact ⟨h.1, h.2.1, BkBox.le hle h.2.2⟩
theorem BxC.le {ρ1 : Rho} (hle : ∀ b v, ρ b = some v → ρ1 b = some v) : ∀ {bs : List (Nat × B)} {r : List L} {gs bg : List Nat}, BxC C.P w fz ρ bs r gs bg → BxC C.P w fz ρ1 bs r gs bg
  | [], _, _, _, h => h
  | (i, .box ks cs) :: bs, r, gs, bg, h => by
    simp only [BxC] at h ⊢
    obtain ⟨g, us, t, g1, g2, bg', a, b, c, d, e, f, k⟩ := h
    exact ⟨g, us, t, g1, g2, bg', hle _ _ a, b, c, BkBox.le hle d, e, f, BxC.le hle k⟩
  | (_, .row _ _ _) :: bs, r, gs, bg, h => by
    simp only [BxC] at h ⊢
    exact BxC.le hle h
  | (_, .arr _ _) :: bs, r, gs, bg, h => by
    simp only [BxC] at h ⊢
    obtain ⟨u, xs, bg', a, b, c, d, e⟩ := h
    exact ⟨u, xs, bg', hle _ _ a, b, c, d, BxC.le hle e⟩
  | (_, .mat _ _ _) :: _, _, _, _, h => by simp [BxC] at h
  | (_, .iter _ _) :: _, _, _, _, h => by simp [BxC] at h
  | (_, .miter _ _ _) :: _, _, _, _, h => by simp [BxC] at h
  | (_, .dead) :: _, _, _, _, h => by simp [BxC] at h

theorem HSim.revive {hp : List B} (H : HSim C.P w fz ρ Wr hp) {i : Nat} {v : Value} {B : B} (hv : ρ i = some v)
    (hw : ∀ g, Bl v g → Wr g ∧ ¬ Lives ρ hp g) (hB : BS C.P w fz ρ i B) : HSim C.P w fz ρ Wr (hp.set i B) ∧ ∀ g', Lives ρ (hp.set i B) g' → Lives ρ hp g' ∨ Bl v g' := by
  have hl2 : ∀ c, c ≠ i → (hp.set i B).getD c .dead = hp.getD c .dead := by
    intro c hc
    rw [getD_set, if_neg (fun e => hc e.1.symm)]
  refine ⟨⟨H.one, fun c h => H.out c (by simpa using h), fun c => ?_, fun c d v1 u1 g1 hne h1 h2 hv1 hu1 e1 e2 => ?_, fun c u g1 h1 hu hg1 => ?_, H.lt⟩, ?_⟩
  · rw [getD_set]
    split
    · rename_i e; rw [← e.1]; exact hB
    · exact H.blk c
  · by_cases a : c = i
    · have b : d ≠ i := fun b => hne (a.trans b.symm)
      rw [a, hv] at hv1; cases hv1
      exact (hw g1 e1).2 ⟨d, u1, by rw [← hl2 d b]; exact h2, hu1, e2⟩
    · by_cases b : d = i
      · rw [b, hv] at hu1; cases hu1
        exact (hw g1 e2).2 ⟨c, v1, by rw [← hl2 c a]; exact h1, hv1, e1⟩
      · exact H.dis c d v1 u1 g1 hne (by rw [← hl2 c a]; exact h1) (by rw [← hl2 d b]; exact h2) hv1 hu1 e1 e2
  · by_cases a : c = i
    · rw [a, hv] at hu; cases hu
      exact (hw g1 hg1).1
    · exact H.wr c u g1 (by rw [← hl2 c a]; exact h1) hu hg1
  · rintro g' ⟨c, u, h1, hu, hg1⟩
    by_cases a : c = i
    · rw [a, hv] at hu; cases hu
      exact .inr hg1
    · exact .inl ⟨c, u, by rw [← hl2 c a]; exact h1, hu, hg1⟩
theorem OwnS.bs {t : TypeId} {u : Value} {xs : List (List L)} {i : Nat} (h : OwnS C.P w fz t u xs) (hi : ρ i = some (pinV u)) : BS C.P w fz ρ i (.arr t xs) := by
  obtain ⟨us, h1, h2, h3, h4, h5, h6⟩ := h
  exact ⟨u, us, hi, h1, h2.mono fun v l hl hu => by
    obtain ⟨e, he, hle⟩ := List.mem_flatten.1 hl
    obtain ⟨kk, hk⟩ := HasKs.mem (h3 e he) l hle
    exact hu.of_hasK C.P hk, h3, h4, h5, h6⟩

theorem backBoxes_sound : ∀ {bs : List (Nat × B)} {r : List L} {gs bg : List Nat} {hp hp' : List B} {ρ : Rho}, HSim C.P w fz ρ Wr hp → BxC C.P w fz ρ bs r gs bg → backBoxes r bs hp = some hp' →
    (bg ++ gs).Nodup → (∀ g ∈ bg ++ gs, Wr g ∧ ¬ Lives ρ hp g) → (∀ p ∈ bs, p.1 < hp.length ∧ hp.getD p.1 .dead = .dead) → (bs.map (·.1)).Nodup →
    ∃ ρ', HSim C.P w fz ρ' Wr hp' ∧ (∀ b v, ρ b = some v → ρ' b = some v)
  | [], r, gs, bg, hp, hp', ρ, H, hb, h, _, _, _, _ => by
    simp only [backBoxes, Option.some.injEq] at h
    subst h
    exact ⟨ρ, H, fun _ _ h => h⟩
  | (i, .box ks cs) :: bs, r, gs, bg, hp, hp', ρ, H, hb, h, hnd, hgs, hids, hidn => by
    simp only [BxC] at hb
    obtain ⟨g, us, t, g1, g2, bg', b1, b2, b3, b4, rfl, rfl, b5⟩ := hb
    simp only [backBoxes] at h
    have hnd2 : (bg' ++ (g1 ++ g2)).Nodup ∧ g ∉ bg' ++ (g1 ++ g2) := by
      rw [List.cons_append, List.nodup_cons] at hnd
      exact ⟨hnd.2, hnd.1⟩
    have hnd3 := List.nodup_append.1 hnd2.1
    have hnd4 := List.nodup_append.1 hnd3.2.1
    obtain ⟨ρ1, G1, R1, T1⟩ := backBox_sound H b4 hnd4.1 (fun g hg => hgs g (by simp [hg]))
    obtain ⟨hi, hdead⟩ := hids (i, .box ks cs) (by simp)
    obtain ⟨tl, htl⟩ := G1.pre
    have hget : ∀ j, j < hp.length → (backBox ks cs r hp).2.getD j .dead = hp.getD j .dead := fun j hj => by
      rw [htl]; simp [List.getD, List.getElem?_append_left hj]
    have hlen : hp.length ≤ (backBox ks cs r hp).2.length := by rw [htl]; simp
    have hgl : ¬ Lives ρ1 (backBox ks cs r hp).2 g := fun hl => by
      rcases G1.lives g hl with y | y
      · exact (hgs g (by simp)).2 y
      · exact hnd2.2 (by simp [y])
    obtain ⟨H2, L2⟩ := G1.sim.revive (C := C) (i := i) (v := .pointer (some ⟨g, 0, none⟩)) (B := .box ks (backBox ks cs r hp).1) (G1.le _ _ b1)
      (fun g' hg' => by have hg' := hg'.pointer; simp only [bk, Option.some.injEq] at hg'; subst hg'; exact ⟨(hgs g (by simp)).1, hgl⟩) ⟨g, us, t, G1.le _ _ b1, b2, R1, T1, b3⟩
    have hidn' : i ∉ bs.map (·.1) ∧ (bs.map (·.1)).Nodup := by simpa using hidn
    obtain ⟨ρ2, H3, L3⟩ := backBoxes_sound H2 (BxC.le (C := C) G1.le b5) h (by
        refine List.nodup_append.2 ⟨hnd3.1, hnd4.2.1, fun a ha b hb => hnd3.2.2 a ha b (by simp [hb])⟩)
      (fun g' hg' => ⟨(hgs g' (by simp at hg' ⊢; rcases hg' with h | h <;> simp [h])).1, fun hl => by
        rcases L2 g' hl with y | y
        · rcases G1.lives g' y with z | z
          · exact (hgs g' (by simp at hg' ⊢; rcases hg' with h | h <;> simp [h])).2 z
          · rcases List.mem_append.1 hg' with q | q
            · exact hnd3.2.2 g' q g' (by simp [z]) rfl
            · exact hnd4.2.2 g' z g' q rfl
        · have y := y.pointer
          simp only [bk, Option.some.injEq] at y
          subst y
          exact hnd2.2 (by simp at hg' ⊢; rcases hg' with h | h <;> simp [h])⟩)
      (fun p hp' => by
        obtain ⟨q1, q2⟩ := hids p (by simp [hp'])
        refine ⟨by simp; omega, ?_⟩
        have hne : i ≠ p.1 := fun e => hidn'.1 (by rw [e]; exact List.mem_map.2 ⟨p, hp', rfl⟩)
        rw [getD_set, if_neg (fun e => hne e.1), hget _ q1]
        exact q2) hidn'.2
    exact ⟨ρ2, H3, fun b v x => L3 b v (G1.le b v x)⟩
  | (i, .row _ _ _) :: bs, r, gs, bg, hp, hp', ρ, H, hb, h, hnd, hgs, hids, hidn => by
    simp only [BxC] at hb
    simp only [backBoxes] at h
    exact backBoxes_sound H hb h hnd hgs (fun p hp => hids p (by simp [hp])) (by simp at hidn ⊢; exact hidn.2)
  | (i, .arr t xs0) :: bs, r, gs, bg, hp, hp', ρ, H, hb, h, hnd, hgs, hids, hidn => by
    simp only [BxC] at hb
    obtain ⟨u, xs, bg', b1, b2, b3, rfl, b5⟩ := hb
    simp only [backBoxes] at h
    rw [b2] at h
    simp only [L.toLst] at h
    have hnd' := List.nodup_append.1 hnd
    have hnd2 := List.nodup_append.1 hnd'.1
    obtain ⟨hi, hdead⟩ := hids (i, .arr t xs0) (by simp)
    obtain ⟨H2, L2⟩ := H.revive (C := C) (i := i) (v := pinV u) (B := .arr t xs) b1 (fun g hg => hgs g (by simp [bl_pinV.1 hg])) (b3.bs b1)
    have hidn' : i ∉ bs.map (·.1) ∧ (bs.map (·.1)).Nodup := by simpa using hidn
    exact backBoxes_sound H2 b5 h (List.nodup_append.2 ⟨hnd2.2.1, hnd'.2.1, fun a ha b hb => hnd'.2.2 a (List.mem_append.2 (.inr ha)) b hb⟩)
      (fun g' hg' => ⟨(hgs g' (by simp at hg' ⊢; rcases hg' with h | h <;> simp [h])).1, fun hl => by
        rcases L2 g' hl with y | y
        · exact (hgs g' (by simp at hg' ⊢; rcases hg' with h | h <;> simp [h])).2 y
        · have y := bl_pinV.1 y
          rcases List.mem_append.1 hg' with q | q
          · exact hnd2.2.2 g' (by simp [y]) g' q rfl
          · exact hnd'.2.2 g' (List.mem_append.2 (.inl (by simp [y]))) g' q rfl⟩)
      (fun p hp' => by
        obtain ⟨q1, q2⟩ := hids p (by simp [hp'])
        refine ⟨by simpa using q1, ?_⟩
        have hne : i ≠ p.1 := fun e => hidn'.1 (by rw [e]; exact List.mem_map.2 ⟨p, hp', rfl⟩)
        rw [getD_set, if_neg (fun e => hne e.1)]
        exact q2) hidn'.2
  | (_, .mat _ _ _) :: _, _, _, _, _, _, _, _, hb, _, _, _, _, _ => by simp [BxC] at hb
  | (_, .iter _ _) :: _, _, _, _, _, _, _, _, hb, _, _, _, _, _ => by simp [BxC] at hb
  | (_, .miter _ _ _) :: _, _, _, _, _, _, _, _, hb, _, _, _, _, _ => by simp [BxC] at hb
  | (_, .dead) :: _, _, _, _, _, _, _, _, hb, _, _, _, _, _ => by simp [BxC] at hb

def BxS (P : Program) (w : World) (fz : Fz) (ρ : Rho) : Nat → Skel → List L → List Nat → List Nat → Prop
  | _, [], _, gs, bg => gs = [] ∧ bg = []
  | b, .no :: sk, r, gs, bg => BxS P w fz ρ (b + 1) sk r gs bg
  | b, .arr t :: sk, r, gs, bg => ∃ u xs bg', ρ b = some (pinV u) ∧ r.headD .any = .lst t xs ∧ OwnS P w fz t u xs ∧ bg = (bk u).toList ++ bg' ∧ BxS P w fz ρ (b + 1) sk r.tail gs bg'
  | b, .box ks old :: sk, r, gs, bg => ∃ g us t g1 g2 bg', ρ b = some (.pointer (some ⟨g, 0, none⟩)) ∧ w.heap[g]? = some (.cells us t (0, 0)) ∧ ((∀ o, ¬ fz g o) ∧ tagB P ks t = true) ∧
      BkBox P w fz ρ ks old us.toList r g1 ∧ gs = g1 ++ g2 ∧ bg = g :: bg' ∧ BxS P w fz ρ (b + 1) sk (r.drop ks.length) g2 bg'

structure EndOk (C : Cfg) (f : FuncId) (w : World) (fz : Fz) (ρ : Rho) (S : Nat → Prop) (sk : Skel) (r : List L) (v : Value) (w' : World) (fz' : Fz) : Prop where
  mv : Mv (fun k => S k ∨ w.heap.size ≤ k) w fz w' fz'
  lt : ∀ g o, fz' g o → g < w'.heap.size
  back : ∃ fn vals us gs gs2 bg, C.P.funcs[f]? = some fn ∧ v = retV vals ∧ Vals C.P fn.resultTypes.toList vals us ∧
    Bk C.P w' fz' (C.own f) (fn.resultTypes.toList.flatMap (kinds C.P)) us r gs ∧ BxS C.P w' fz' ρ 0 sk (r.drop (fn.resultTypes.toList.flatMap (kinds C.P)).length) gs2 bg ∧
    (bg ++ (gs ++ gs2)).Nodup ∧ ∀ g ∈ gs ++ gs2, S g ∨ w.heap.size ≤ g

def EnterOk (C : Cfg) (G : Req → R) : Prop := ∀ f args hp r, G (.enter f args hp) = some r → ∀ (w : World) (fz : Fz) (ρ : Rho) (S : Nat → Prop) (vs : Array Value),
  Tabs C w S → HSim C.P w fz ρ S hp → RepDs (Rep C.P w fz ρ) vs.toList args →
  Calls C.P f vs w fun e w' => ∃ v fz', e = .returned v ∧ EndOk C f w fz ρ S (hp.map skelB) r v w' fz'
def ExtOk (C : Cfg) : Prop := ∀ f S args hp r, C.ext f = some S → S args hp = some (true, r) → ∀ (w : World) (fz : Fz) (ρ : Rho) (S : Nat → Prop) (vs : Array Value),
  Tabs C w S → HSim C.P w fz ρ S hp → RepDs (Rep C.P w fz ρ) vs.toList args →
  Calls C.P f vs w fun e w' => ∃ v fz', e = .returned v ∧ EndOk C f w fz ρ S (hp.map skelB) r v w' fz'

end
end Go.Ab
namespace Go.Ab
section
variable {C : Cfg} {w w' : World} {fz fz' : Fz} {ρ ρ' : Rho} {Wr : Nat → Prop} {a : Act} {st : St}

theorem frzDs_sound {mv : Bool} : ∀ {ds ds' : List D} {hp hp' : List B} {fz : Fz} {vs : List Value}, HSim C.P w fz ρ Wr hp → frzDs mv hp ds = some (ds', hp') → RepDs (Rep C.P w fz ρ) vs ds →
    ∃ fz', FzExt fz fz' Wr ∧ HSim C.P w fz' ρ Wr hp' ∧ RepDs (Rep C.P w fz' ρ) vs ds' ∧ hp'.length = hp.length
  | [], ds', hp, hp', fz, vs, H, h, hv => by
    simp only [frzDs, Option.some.injEq, Prod.mk.injEq] at h
    obtain ⟨rfl, rfl⟩ := h
    exact ⟨fz, .refl, H, hv, rfl⟩
  | d :: ds, ds', hp, hp', fz, [], H, h, hv => by simp [RepDs] at hv
  | d :: ds, ds', hp, hp', fz, v :: vs, H, h, hv => by
    simp only [RepDs] at hv
    simp only [frzDs] at h
    split at h
    · rename_i d1 hp1 e1
      split at h
      · rename_i ds2 hp2 e2
        simp only [Option.some.injEq, Prod.mk.injEq] at h
        obtain ⟨rfl, rfl⟩ := h
        have one : ∃ fz1, FzExt fz fz1 Wr ∧ HSim C.P w fz1 ρ Wr hp1 ∧ RepD (Rep C.P w fz1 ρ) v d1 ∧ hp1.length = hp.length := by
          split at e1
          · simp only [Option.some.injEq, Prod.mk.injEq] at e1
            obtain ⟨rfl, rfl⟩ := e1
            exact ⟨fz, .refl, H, hv.1, rfl⟩
          · simp only [Option.some.injEq, Prod.mk.injEq] at e1
            obtain ⟨rfl, rfl⟩ := e1
            exact ⟨fz, .refl, H, hv.1, rfl⟩
          · simp only [Option.some.injEq, Prod.mk.injEq] at e1
            obtain ⟨rfl, rfl⟩ := e1
            exact ⟨fz, .refl, H, hv.1, rfl⟩
          · simp only [Option.some.injEq, Prod.mk.injEq] at e1
            obtain ⟨rfl, rfl⟩ := e1
            exact ⟨fz, .refl, H, hv.1, rfl⟩
          · split at e1
            · simp only [Option.some.injEq, Prod.mk.injEq] at e1
              obtain ⟨rfl, rfl⟩ := e1
              exact ⟨fz, .refl, H, hv.1, rfl⟩
            · simp only [Option.map_eq_some_iff, Prod.mk.injEq] at e1
              obtain ⟨⟨l', hp0⟩, e3, rfl, rfl⟩ := e1
              obtain ⟨fz1, x1, H1, r1, f1, n1⟩ := frzL_sound H e3 hv.1
              exact ⟨fz1, x1, H1, r1, n1⟩
          · simp only [Option.map_eq_some_iff, Prod.mk.injEq] at e1
            obtain ⟨⟨l', hp0⟩, e3, rfl, rfl⟩ := e1
            obtain ⟨fz1, x1, H1, r1, f1, n1⟩ := frzL_sound H e3 hv.1
            exact ⟨fz1, x1, H1, r1, n1⟩
          · simp only [Option.map_eq_some_iff, Prod.mk.injEq] at e1
            obtain ⟨⟨ls', hp0⟩, e3, rfl, rfl⟩ := e1
            obtain ⟨cs, rfl, hr⟩ := hv.1
            obtain ⟨fz1, x1, H1, r1, f1, n1⟩ := frzLs_sound H e3 hr
            exact ⟨fz1, x1, H1, ⟨cs, rfl, r1⟩, n1⟩
          · cases e1
        obtain ⟨fz1, x1, H1, r1, n1⟩ := one
        obtain ⟨fz2, x2, H2, r2, n2⟩ := frzDs_sound H1 e2 (repDs_fz x1.1 hv.2)
        exact ⟨fz2, x1.trans x2, H2, ⟨repD_fz x2.1 r1, r2⟩, by omega⟩
      · cases h
    · cases h

theorem killIds_len : ∀ (ids : List Nat) (hp : List B), (killIds ids hp).length = hp.length
  | [], _ => rfl
  | i :: ids, hp => by simp only [killIds, List.foldl_cons]; exact (killIds_len ids _).trans (by simp)
theorem killIds_get : ∀ (ids : List Nat) (hp : List B) (b : Nat), (killIds ids hp).getD b .dead = if b ∈ ids then .dead else hp.getD b .dead
  | [], _, _ => by simp [killIds]
  | i :: ids, hp, b => by
    simp only [killIds, List.foldl_cons]
    have := killIds_get ids (hp.set i .dead) b
    simp only [killIds] at this
    rw [this, getD_set]
    by_cases h1 : b ∈ ids
    · simp [h1]
    · by_cases h2 : b = i
      · subst h2
        by_cases h3 : b < hp.length
        · simp [h1, h3]
        · have : hp.getD b .dead = .dead := by simp [List.getD, List.getElem?_eq_none (Nat.le_of_not_lt h3)]
          simp [h1, h3]
      · have h3 : ¬ (i = b ∧ i < hp.length) := fun h => h2 h.1.symm
        simp [h1, h2, h3]

theorem HSim.hide {hp : List B} (H : HSim C.P w fz ρ Wr hp) (ids : List Nat) : HSim C.P w fz ρ Wr (killIds ids hp) := by
  have hl : ∀ b, (killIds ids hp).getD b .dead ≠ .dead → hp.getD b .dead ≠ .dead := by
    intro b h
    rw [killIds_get] at h
    split at h
    · exact absurd rfl h
    · exact h
  refine ⟨H.one, fun b h => H.out b (by rw [killIds_len] at h; exact h), fun b => ?_, fun b c v u g hne h1 h2 => H.dis b c v u g hne (hl b h1) (hl c h2), fun b u g h1 => H.wr b u g (hl b h1), H.lt⟩
  rw [killIds_get]
  split
  · trivial
  · exact H.blk b

theorem HSim.live_lt {hp : List B} (H : HSim C.P w fz ρ Wr hp) {g : Nat} (h : Lives ρ hp g) : g < w.heap.size := by
  obtain ⟨b, u, hd, hu, hg⟩ := h
  exact H.bl_lt hd hu hg

theorem HSim.moved {hp : List B} {WrC : Nat → Prop} (H : HSim C.P w fz ρ Wr hp) (M : Mv WrC w fz w' fz') (hlt : ∀ g o, fz' g o → g < w'.heap.size) (hd : ∀ g, Lives ρ hp g → ¬ WrC g) :
    HSim C.P w' fz' ρ Wr hp := by
  refine ⟨H.one, H.out, fun b => ?_, H.dis, H.wr, hlt⟩
  by_cases e : hp.getD b .dead = .dead
  · rw [e]; trivial
  · refine (H.blk b).mono C.P M.keep M.ext.1 (fun _ h => h) (fun u g hu hg => ?_) (fun _ _ _ h => h)
    have hL : Lives ρ hp g := ⟨b, u, e, hu, hg⟩
    refine ⟨M.block g (H.live_lt hL) (hd g hL), fun o ho => ?_⟩
    rcases M.ext.2 g o ho with h | h
    · exact h
    · exact absurd h (hd g hL)

theorem nodupB_spec : ∀ {l : List Nat}, nodupB l = true → l.Nodup
  | [], _ => List.nodup_nil
  | x :: xs, h => by
    simp only [nodupB, Bool.and_eq_true, Bool.not_eq_true', List.contains_eq_mem, decide_eq_false_iff_not] at h
    exact List.nodup_cons.2 ⟨h.1, nodupB_spec h.2⟩

def rhoC (ids : List Nat) (ρ : Rho) : Rho := fun j => (ids[j]?).bind ρ
theorem rhoC_ren {ids : List Nat} {b : Nat} (h : b ∈ ids) : rhoC ids ρ (ids.idxOf b) = ρ b := by
  have hl := List.idxOf_lt_length_of_mem h
  simp only [rhoC, List.getElem?_eq_getElem hl, Option.bind_some]
  rw [List.getElem_idxOf]

mutual
theorem repD_ren {ids : List Nat} : ∀ {v : Value} {d : D}, RepD (Rep C.P w fz ρ) v d → (∀ b ∈ refsD d, b ∈ ids) → RepD (Rep C.P w fz (rhoC ids ρ)) v (renD (fun i => ids.idxOf i) d)
  | v, .lf l, h, hb => by
    simp only [RepD, renD] at h ⊢
    exact (rep_ren_aux C.P w fz ρ (rhoC ids ρ) _ l v fun b hbb => rhoC_ren (hb b (by simpa [refsD] using hbb))).1 h
  | v, .agg ls, h, hb => by
    simp only [RepD, renD] at h ⊢
    obtain ⟨cs, e, h⟩ := h
    refine ⟨cs, e, ?_⟩
    rw [renLs_map]
    have hh := rep_ren_auxs C.P w fz ρ (rhoC ids ρ) (fun i => ids.idxOf i) ls fun b hbb => rhoC_ren (hb b (by simpa [refsD] using hbb))
    refine RepLs.of (by simp [h.length]) fun i v l h1 h2 => ?_
    simp only [List.getElem?_map, Option.map_eq_some_iff] at h2
    obtain ⟨l0, h3, rfl⟩ := h2
    obtain ⟨l1, h4, h5⟩ := h.get' i v h1
    rw [h3] at h4; cases h4
    exact (hh.2.2 i l0 h3 v).1 h5
  | v, .tup ds, h, hb => by
    simp only [RepD, renD] at h ⊢
    obtain ⟨vs, e, h⟩ := h
    exact ⟨vs, e, repDs_ren h (by simpa [refsD] using hb)⟩
theorem repDs_ren {ids : List Nat} : ∀ {vs : List Value} {ds : List D}, RepDs (Rep C.P w fz ρ) vs ds → (∀ b ∈ refsDs ds, b ∈ ids) → RepDs (Rep C.P w fz (rhoC ids ρ)) vs (renDs (fun i => ids.idxOf i) ds)
  | [], [], _, _ => by simp [RepDs, renDs]
  | v :: vs, d :: ds, h, hb => by
    simp only [RepDs, renDs] at h ⊢
    exact ⟨repD_ren h.1 fun b hbb => hb b (by simp only [refsDs, List.mem_append]; exact .inl hbb), repDs_ren h.2 fun b hbb => hb b (by simp only [refsDs, List.mem_append]; exact .inr hbb)⟩
  | [], _ :: _, h, _ => by simp [RepDs] at h
  | _ :: _, [], h, _ => by simp [RepDs] at h
end

theorem repLs_ren {ids : List Nat} {vs : List Value} {ls : List L} (h : RepLs (Rep C.P w fz ρ) vs ls) (hb : ∀ b ∈ refsLs ls, b ∈ ids) : RepLs (Rep C.P w fz (rhoC ids ρ)) vs (renLs (fun i => ids.idxOf i) ls) := by
  rw [renLs_map]
  have hh := rep_ren_auxs C.P w fz ρ (rhoC ids ρ) (fun i => ids.idxOf i) ls fun b hbb => rhoC_ren (hb b hbb)
  refine RepLs.of (by simp [h.length]) fun i v l h1 h2 => ?_
  simp only [List.getElem?_map, Option.map_eq_some_iff] at h2
  obtain ⟨l0, h3, rfl⟩ := h2
  obtain ⟨l1, h4, h5⟩ := h.get' i v h1
  rw [h3] at h4; cases h4
  exact (hh.2.2 i l0 h3 v).1 h5
theorem tyB_ren {f : Nat → Nat} : ∀ {ks : List K} {ls : List L}, TyB ks ls → TyB ks (renLs f ls)
  | [], [], _ => trivial
  | k :: _, l :: _, h => ⟨by
      have := h.1
      cases k <;> simp only [TyK] at this ⊢ <;> first | trivial | (obtain ⟨_, rfl⟩ := this; exact ⟨_, rfl⟩), tyB_ren h.2⟩

def Taken (ρ : Rho) (hp : List B) (ids : List Nat) (g : Nat) : Prop := ∃ i ∈ ids, ∃ u, hp.getD i .dead ≠ .dead ∧ ρ i = some u ∧ Bl u g

theorem getD_map {ids : List Nat} {f : Nat → B} {j : Nat} : (ids.map f).getD j .dead = match ids[j]? with | some i => f i | none => .dead := by
  simp only [List.getD, List.getElem?_map]
  cases ids[j]? <;> rfl

theorem HSim.taken {hp : List B} (H : HSim C.P w fz ρ Wr hp) {ids : List Nat} (hn : ids.Nodup) (hcl : ∀ i ∈ ids, ∀ b ∈ refsB (hp.getD i .dead), b ∈ ids) :
    HSim C.P w fz (rhoC ids ρ) (Taken ρ hp ids) ((ids.map fun i => hp.getD i .dead).map (renB fun i => ids.idxOf i)) := by
  rw [List.map_map]
  have hrd : ∀ x : B, renB (fun i => ids.idxOf i) x = .dead ↔ x = .dead := fun x => by cases x <;> simp [renB]
  have get : ∀ j, ((ids.map ((renB fun i => ids.idxOf i) ∘ fun i => hp.getD i .dead))).getD j .dead ≠ .dead → ∃ i, ids[j]? = some i ∧ hp.getD i .dead ≠ .dead := by
    intro j h
    rw [getD_map] at h
    split at h
    · rename_i i hi
      exact ⟨i, hi, fun e => h ((hrd _).2 e)⟩
    · exact absurd rfl h
  refine ⟨fun b v hv => ?_, fun b hb => ?_, fun j => ?_, ?_, ?_, H.lt⟩
  · simp only [rhoC, Option.bind_eq_some_iff] at hv
    obtain ⟨i, _, hi⟩ := hv
    exact H.one i v hi
  · simp only [List.length_map] at hb
    simp [rhoC, List.getElem?_eq_none hb]
  · rw [getD_map]
    split
    · rename_i i hi
      have hmem := List.mem_of_getElem? hi
      have hρ : rhoC ids ρ j = ρ i := by simp [rhoC, hi]
      have hb := H.blk i
      have hc := hcl i hmem
      show BS C.P w fz (rhoC ids ρ) j (renB _ (hp.getD i .dead))
      cases hbb : hp.getD i .dead with
      | dead => trivial
      | box ks cs =>
        rw [hbb] at hb hc
        obtain ⟨g, us, t, h1, h2, h3, h4, h5⟩ := hb
        exact ⟨g, us, t, hρ.trans h1, h2, repLs_ren h3 (by simpa [refsB] using hc), tyB_ren h4, h5⟩
      | row t xs ex =>
        rw [hbb] at hb
        obtain ⟨v, us, h1, h2, h3, h4, h5⟩ := hb
        refine ⟨v, us, hρ.trans h1, h2, h3.mono fun u l hl hu => ?_, h4, h5⟩
        obtain ⟨e, he, hle⟩ := List.mem_flatten.1 hl
        obtain ⟨kk, hk⟩ := HasKs.mem (h4 e he) l hle
        exact hu.of_hasK C.P hk
      | arr t xs =>
        rw [hbb] at hb
        obtain ⟨v, us, h1, h2, h3, h4, h5⟩ := hb
        refine ⟨v, us, hρ.trans h1, h2, h3.mono fun u l hl hu => ?_, h4, h5⟩
        obtain ⟨e, he, hle⟩ := List.mem_flatten.1 hl
        obtain ⟨kk, hk⟩ := HasKs.mem (h4 e he) l hle
        exact hu.of_hasK C.P hk
      | mat t e yss =>
        rw [hbb] at hb
        obtain ⟨v, us, h1, h2, h3, h4, h5, h6, h7, h8⟩ := hb
        refine ⟨v, us, hρ.trans h1, h2, h3, h4, h5, h6, fun i1 u ys hu hy => ?_, h8⟩
        obtain ⟨cs, m1, m2, m3⟩ := h7 i1 u ys hu hy
        refine ⟨cs, m1, m2.mono fun u l hl hu => ?_, m3⟩
        obtain ⟨e, he, hle⟩ := List.mem_flatten.1 hl
        obtain ⟨kk, hk⟩ := HasKs.mem (m3 e he) l hle
        exact hu.of_hasK C.P hk
      | iter s pos =>
        rw [hbb] at hb
        obtain ⟨g, h1, h2, h3⟩ := hb
        exact ⟨g, hρ.trans h1, h2, h3⟩
      | miter es left cur =>
        rw [hbb] at hb
        obtain ⟨g, m, seen, h1, h2⟩ := hb
        exact ⟨g, m, seen, hρ.trans h1, h2⟩
    · trivial
  · intro j k v u g hne h1 h2 hv hu
    obtain ⟨i, hi, hd⟩ := get j h1
    obtain ⟨i', hi', hd'⟩ := get k h2
    have e1 : ρ i = some v := by simpa [rhoC, hi] using hv
    have e2 : ρ i' = some u := by simpa [rhoC, hi'] using hu
    refine H.dis i i' v u g (fun e => hne ?_) hd hd' e1 e2
    subst e
    have hj := (List.getElem?_eq_some_iff.1 hi).1
    have hk := (List.getElem?_eq_some_iff.1 hi').1
    have e3 : ids[j] = ids[k] := by
      rw [(List.getElem?_eq_some_iff.1 hi).2, (List.getElem?_eq_some_iff.1 hi').2]
    exact (List.getElem_inj hn).1 e3
  · intro j v g h1 hv hg
    obtain ⟨i, hi, hd⟩ := get j h1
    exact ⟨i, List.mem_of_getElem? hi, v, hd, by simpa [rhoC, hi] using hv, hg⟩

end
end Go.Ab
namespace Go.Ab
section
variable {C : Cfg} {w w' : World} {fz fz' : Fz} {ρ ρ' : Rho} {Wr : Nat → Prop} {a : Act} {st : St}

theorem bkBox_ren {ids : List Nat} {f : Nat → Nat} (hf : ∀ b ∈ ids, rhoC ids ρ (f b) = ρ b) : ∀ {ks : List K} {cs : List L} {us : List Value} {r : List L} {gs : List Nat}, (∀ b ∈ refsLs cs, b ∈ ids) →
    BkBox C.P w fz (rhoC ids ρ) ks (skelLs ks (renLs f cs)) us r gs → BkBox C.P w fz ρ ks cs us r gs
  | [], _, [], _, _, _, h => by simpa [BkBox] using h
  | [], _, _ :: _, _, _, _, h => by simp [BkBox] at h
  | k :: _, _, [], _, _, _, h => by cases k <;> simp [BkBox] at h
  | k :: ks, cs, u :: us, r, gs, hc, h => by
    have ht : (renLs f cs).tail = renLs f cs.tail := by cases cs <;> simp [renLs]
    have hct : ∀ b ∈ refsLs cs.tail, b ∈ ids := by
      cases cs with
      | nil => simp [refsLs]
      | cons c cs => exact fun b hb => hc b (by simp only [refsLs, List.mem_append]; exact .inr hb)
    cases k with
    | sl t =>
      simp only [skelLs, BkBox, ht, List.tail_cons] at h ⊢
      have hm : ((cond ((renLs f cs).headD .any).isL (L.lst t []) .any :: skelLs ks (renLs f cs.tail)).headD .any).isL = (cs.headD .any).isL := by
        cases cs with
        | nil => rfl
        | cons c cs => cases c <;> rfl
      rw [hm] at h
      split at h
      · rename_i hi
        rw [if_pos hi]
        exact ⟨h.1, h.2.1, bkBox_ren hf hct h.2.2⟩
      · rename_i hi
        rw [if_neg hi]
        split at h
        · rename_i hj
          rw [if_pos hj]
          exact bkBox_ren hf hct h
        · rename_i hj
          rw [if_neg hj]
          obtain ⟨xs, gs', u', l, a, b, c, d⟩ := h
          exact ⟨xs, gs', u', l, a, b, c, bkBox_ren hf hct d⟩
    | oth =>
      simp only [skelLs, BkBox, ht, List.tail_cons, List.headD_cons] at h ⊢
      refine ⟨?_, bkBox_ren hf hct h.2⟩
      cases cs with
      | nil => exact .any _
      | cons c cs =>
        have h1 := h.1
        simp only [renLs, List.headD_cons] at h1
        exact (rep_ren_aux C.P w fz ρ (rhoC ids ρ) f c u fun b hb => hf b (hc b (by simp only [refsLs, List.mem_append]; exact .inl hb))).2 h1
    | int k => simp only [skelLs, BkBox, ht, List.tail_cons] at h ⊢; exact ⟨h.1, h.2.1, bkBox_ren hf hct h.2.2⟩
    | bool => simp only [skelLs, BkBox, ht, List.tail_cons] at h ⊢; exact ⟨h.1, h.2.1, bkBox_ren hf hct h.2.2⟩
    | str => simp only [skelLs, BkBox, ht, List.tail_cons] at h ⊢; exact ⟨h.1, h.2.1, bkBox_ren hf hct h.2.2⟩
    | mp => simp only [skelLs, BkBox, ht, List.tail_cons] at h ⊢; exact ⟨h.1, h.2.1, bkBox_ren hf hct h.2.2⟩

theorem bxS_bxC {ids : List Nat} {hp hp0 : List B} {hp1 : List B} (hcl : ∀ i ∈ ids, ∀ b ∈ refsB (hp.getD i .dead), b ∈ ids) :
    ∀ (is : List Nat) (j : Nat) {r : List L} {gs bg : List Nat}, (∀ q, is[q]? = ids[j + q]?) → (∃ hp', backBoxes r (is.zip (is.map fun i => hp.getD i .dead)) hp0 = some hp') →
    BxS C.P w fz (rhoC ids ρ) j ((is.map fun i => renB (fun i => ids.idxOf i) (hp.getD i .dead)).map skelB) r gs bg → BxC C.P w fz ρ (is.zip (is.map fun i => hp.getD i .dead)) r gs bg
  | [], _, _, _, _, _, _, h => by simpa [BxS, BxC] using h
  | i :: is, j, r, gs, bg, hq, hbb, h => by
    have hi : ids[j]? = some i := by have := hq 0; simpa using this.symm
    have hq' : ∀ q, is[q]? = ids[j + 1 + q]? := fun q => by
      have := hq (q + 1)
      rw [List.getElem?_cons_succ] at this
      rw [this]; congr 1; omega
    have hmem := List.mem_of_getElem? hi
    simp only [List.map_cons, List.zip_cons_cons] at h hbb ⊢
    cases hb : hp.getD i .dead with
    | dead => rw [hb] at hbb; obtain ⟨_, e⟩ := hbb; simp [backBoxes] at e
    | iter s p => rw [hb] at hbb; obtain ⟨_, e⟩ := hbb; simp [backBoxes] at e
    | miter es l c => rw [hb] at hbb; obtain ⟨_, e⟩ := hbb; simp [backBoxes] at e
    | row t xs ex =>
      rw [hb] at h hbb
      simp only [renB, skelB, BxS, BxC] at h ⊢
      simp only [backBoxes] at hbb
      exact bxS_bxC (hp1 := hp1) hcl is (j + 1) hq' hbb h
    | mat t e yss => rw [hb] at hbb; obtain ⟨_, e⟩ := hbb; simp [backBoxes] at e
    | arr t xs =>
      rw [hb] at h hbb
      simp only [renB, skelB, BxS, BxC] at h ⊢
      simp only [backBoxes] at hbb
      obtain ⟨u, xs', bg', a1, a2, a3, a4, a5⟩ := h
      exact ⟨u, xs', bg', by simpa [rhoC, hi] using a1, a2, a3, a4, bxS_bxC (hp0 := _) (hp1 := hp1) hcl is (j + 1) hq' hbb a5⟩
    | box ks cs =>
      rw [hb] at h hbb
      have hc := hcl i hmem
      rw [hb] at hc
      simp only [renB, skelB, BxS, BxC] at h ⊢
      obtain ⟨g, us, t, g1, g2, bg', a1, a2, a3, a4, a5, a6, a7⟩ := h
      refine ⟨g, us, t, g1, g2, bg', ?_, a2, a3, bkBox_ren (ids := ids) (f := fun i => ids.idxOf i) (fun b hb => rhoC_ren hb) (by simpa [refsB] using hc) a4, a5, a6, ?_⟩
      · simpa [rhoC, hi] using a1
      · simp only [backBoxes] at hbb
        exact bxS_bxC (hp0 := _) (hp1 := hp1) hcl is (j + 1) hq' hbb a7

theorem bxC_blocks : ∀ {bs : List (Nat × B)} {r : List L} {gs bg : List Nat}, BxC C.P w fz ρ bs r gs bg → ∀ g ∈ bg, ∃ p ∈ bs, p.2 ≠ .dead ∧ ∃ u, ρ p.1 = some u ∧ Bl u g
  | [], _, _, _, h, g, hg => by simp [BxC] at h; rw [h.2] at hg; simp at hg
  | (i, .box ks cs) :: bs, r, gs, bg, h, g, hg => by
    simp only [BxC] at h
    obtain ⟨g0, us, t, g1, g2, bg', a, b, c, d, e, rfl, k⟩ := h
    rcases List.mem_cons.1 hg with e | e
    · subst e; exact ⟨_, List.mem_cons_self, by simp, _, a, .of rfl⟩
    · obtain ⟨p, hp, q⟩ := bxC_blocks k g e
      exact ⟨p, List.mem_cons_of_mem _ hp, q⟩
  | (i, .row _ _ _) :: bs, r, gs, bg, h, g, hg => by
    simp only [BxC] at h
    obtain ⟨p, hp, q⟩ := bxC_blocks h g hg
    exact ⟨p, List.mem_cons_of_mem _ hp, q⟩
  | (i, .arr _ _) :: bs, r, gs, bg, h, g, hg => by
    simp only [BxC] at h
    obtain ⟨u, xs', bg', a1, a2, a3, rfl, a5⟩ := h
    rcases List.mem_append.1 hg with e | e
    · exact ⟨_, List.mem_cons_self, by simp, _, a1, bl_pinV.2 (by simpa using e)⟩
    · obtain ⟨p, hp, q⟩ := bxC_blocks a5 g e
      exact ⟨p, List.mem_cons_of_mem _ hp, q⟩
  | (_, .mat _ _ _) :: _, _, _, _, h, _, _ => by simp [BxC] at h
  | (_, .iter _ _) :: _, _, _, _, h, _, _ => by simp [BxC] at h
  | (_, .miter _ _ _) :: _, _, _, _, h, _, _ => by simp [BxC] at h
  | (_, .dead) :: _, _, _, _, h, _, _ => by simp [BxC] at h

theorem bxC_live : ∀ {bs : List (Nat × B)} {r : List L} {gs bg : List Nat}, BxC C.P w fz ρ bs r gs bg → ∀ p ∈ bs, p.2 ≠ .dead
  | [], _, _, _, h, p, hp => by simp at hp
  | (i, .box ks cs) :: bs, r, gs, bg, h, p, hp => by
    simp only [BxC] at h
    obtain ⟨g0, us, t, g1, g2, bg', a, b, c, d, e, f, k⟩ := h
    rcases List.mem_cons.1 hp with e | e
    · subst e; simp
    · exact bxC_live k p e
  | (i, .row _ _ _) :: bs, r, gs, bg, h, p, hp => by
    simp only [BxC] at h
    rcases List.mem_cons.1 hp with e | e
    · subst e; simp
    · exact bxC_live h p e
  | (i, .arr _ _) :: bs, r, gs, bg, h, p, hp => by
    simp only [BxC] at h
    obtain ⟨u, xs', bg', a1, a2, a3, a4, a5⟩ := h
    rcases List.mem_cons.1 hp with e | e
    · subst e; simp
    · exact bxC_live a5 p e
  | (_, .mat _ _ _) :: _, _, _, _, h, _, _ => by simp [BxC] at h
  | (_, .iter _ _) :: _, _, _, _, h, _, _ => by simp [BxC] at h
  | (_, .miter _ _ _) :: _, _, _, _, h, _, _ => by simp [BxC] at h
  | (_, .dead) :: _, _, _, _, h, _, _ => by simp [BxC] at h

theorem rep_retV {r : Value → L → Prop} {vals : List Value} {ds : List D} (h : RepDs r vals ds) : RepD r (retV vals) (retD ds) := by
  match vals, ds, h with
  | [], [], _ => exact ⟨#[], rfl, by simp [RepDs]⟩
  | [v], [d], h => exact h.1
  | v :: u :: vs, d :: e :: ds, h => exact ⟨(v :: u :: vs).toArray, rfl, by simpa using h⟩

theorem callP_body {G : Req → R} {f : FuncId} {args : List D} {κ : D → St → R} {r : List L} (h : callP C G f args st κ = some r) : ∃ fn, C.P.funcs[f]? = some fn ∧ fn.body.isNone = false := by
  unfold callP at h
  split at h
  · cases h
  unfold callB at h
  split at h
  · cases h
  rename_i fn hfn
  split at h
  · cases h
  rename_i hb
  exact ⟨fn, hfn, Bool.eq_false_iff.2 hb⟩

theorem callA_body {G : Req → R} {f : FuncId} {args : List D} {κ : D → St → R} {r : List L} (h : callA C G f args st κ = some r) : ∃ fn, C.P.funcs[f]? = some fn ∧ fn.body.isNone = false := by
  unfold callA at h
  split at h <;> exact callP_body h

theorem ansA_sound {G : Req → R} (hG : EnterOk C G) (hE : ExtOk C) {f : FuncId} {as : List D} {bs : List B} {κ : List L → R} {r : List L} (h : ansA C G f as bs κ = some r) :
    ∃ r1, (∀ (w : World) (fz : Fz) (ρ : Rho) (S : Nat → Prop) (vs : Array Value), Tabs C w S → HSim C.P w fz ρ S bs → RepDs (Rep C.P w fz ρ) vs.toList as →
      Calls C.P f vs w fun e w' => ∃ v fz', e = .returned v ∧ EndOk C f w fz ρ S (bs.map skelB) r1 v w' fz') ∧ κ r1 = some r := by
  unfold ansA at h
  split at h
  · rename_i SP hext
    split at h
    case h_2 => cases h
    rename_i g r1 hr1
    cases g
    case false => cases h
    exact ⟨r1, hE f SP as bs r1 hext hr1, h⟩
  · simp only [Option.bind_eq_some_iff] at h
    obtain ⟨r1, hr1, h⟩ := h
    rw [fR_eq] at h
    exact ⟨r1, hG f as bs r1 hr1, h⟩

theorem callB_sound {G : Req → R} (hG : EnterOk C G) (hE : ExtOk C) {hp0 : List B} (H : HSim C.P w fz ρ Wr hp0) (hw : Env C w Wr) {f : FuncId} {args : List D} {vs : Array Value} {κ : List D → List B → R} {r : List L}
    (hargs : RepDs (Rep C.P w fz ρ) vs.toList args) (h : callB C G f args hp0 κ = some r) :
    Calls C.P f vs w fun e w' => ∃ vals ds hp' fz' ρ', e = .returned (retV vals) ∧ κ ds hp' = some r ∧ RepDs (Rep C.P w' fz' ρ') vals ds ∧ HSim C.P w' fz' ρ' Wr hp' ∧ Mv Wr w fz w' fz' ∧ ∀ b v, ρ b = some v → ρ' b = some v := by
  unfold callB at h
  split at h
  · cases h
  rename_i fn hfn
  split at h
  · cases h
  split at h
  · cases h
  rename_i as hp hfr
  obtain ⟨fz1, x1, H1, hargs1, hlen1⟩ := frzDs_sound H hfr hargs
  dsimp only at h
  split at h
  case isFalse => cases h
  rename_i hck
  simp only [Bool.and_eq_true, List.all_eq_true, List.contains_eq_mem, decide_eq_true_eq] at hck
  obtain ⟨hnb, hck1, hck2⟩ := hck
  generalize hids : reachN hp 100 (refsDs as) [] = ids at *
  have hn := nodupB_spec hnb
  have hcl : ∀ i ∈ ids, ∀ b ∈ refsB (hp.getD i .dead), b ∈ ids := fun i hi b hb => hck2 _ (List.mem_map.2 ⟨i, hi, rfl⟩) b hb
  obtain ⟨r1, hr1, h⟩ := ansA_sound (C := C) hG hE h
  split at h
  case h_2 => cases h
  rename_i ds rr hp' hback
  split at h
  case h_2 => cases h
  rename_i hp'' hbx
  have HC := H1.taken (C := C) hn hcl
  have hargs2 := repDs_ren (C := C) (ids := ids) hargs1 hck1
  have hTW : ∀ g, Taken ρ hp ids g → Wr g := by
    rintro g ⟨i, hi, u, hd, hu, hg⟩
    exact H1.wr i u g hd hu hg
  refine (hr1 w fz1 (rhoC ids ρ) (Taken ρ hp ids) vs (hw.2.sub hTW) HC hargs2).mono ?_
  rintro e w' ⟨v, fz', rfl, E⟩
  obtain ⟨fn', vals, us, gs, gs2, bg, k1, k2, k3, k4, k5, k6, k7⟩ := E.back
  rw [hfn] at k1
  cases k1
  have hM : Mv Wr w fz1 w' fz' := E.mv.mono fun k hk => hk.elim (hTW k) (hw.1 k)
  -- what is not taken over stays
  have hsep : ∀ g, Lives ρ (killIds ids hp) g → ¬ Taken ρ hp ids g ∧ g < w.heap.size := by
    rintro g ⟨b, u, hd, hu, hg⟩
    rw [killIds_get] at hd
    split at hd
    · exact absurd rfl hd
    rename_i hnb
    refine ⟨?_, H1.live_lt ⟨b, u, hd, hu, hg⟩⟩
    rintro ⟨i, hi, u', hd', hu', hg'⟩
    exact H1.dis b i u u' g (fun e => hnb (e ▸ hi)) hd hd' hu hu' hg hg'
  have H2 : HSim C.P w' fz' ρ Wr (killIds ids hp) := (H1.hide (C := C) ids).moved E.mv E.lt fun g hg hh => by
    have := hsep g hg
    exact hh.elim this.1 fun hh => by omega
  have hfree : ∀ g, (Taken ρ hp ids g ∨ w.heap.size ≤ g) → Wr g ∧ ¬ Lives ρ (killIds ids hp) g := fun g hg =>
    ⟨hg.elim (hTW g) (hw.1 g), fun hl => by have := hsep g hl; exact hg.elim this.1 fun hh => by omega⟩
  have n1 := List.nodup_append.1 k6
  have n2 := List.nodup_append.1 n1.2.1
  obtain ⟨ρ2, G2, R2, hrr⟩ := backD_sound (C := C) H2 k3 k4 hback n2.1 (fun g hg => hfree g (k7 g (by simp [hg])))
  -- the boxes
  have hsk : (ids.map fun i => hp.getD i .dead).map (renB fun i => ids.idxOf i) = ids.map fun i => renB (fun i => ids.idxOf i) (hp.getD i .dead) := by rw [List.map_map]; rfl
  rw [hsk, ← hrr] at k5
  have hbxC := bxS_bxC (C := C) (hp1 := []) hcl ids 0 (fun q => by simp) ⟨_, hbx⟩ k5
  have hbg : ∀ g ∈ bg, Taken ρ hp ids g := by
    intro g hg
    obtain ⟨p, hp1, hp2, u0, hp3, hp4⟩ := bxC_blocks hbxC g hg
    obtain ⟨q, hq⟩ := List.mem_iff_getElem?.1 hp1
    rw [List.getElem?_zip_eq_some] at hq
    obtain ⟨q1, q2⟩ := hq
    simp only [List.getElem?_map, q1, Option.map_some, Option.some.injEq] at q2
    exact ⟨p.1, List.mem_of_getElem? q1, _, by rw [q2]; exact hp2, hp3, hp4⟩
  obtain ⟨tl, htl⟩ := G2.pre
  obtain ⟨ρ3, H3, L3⟩ := backBoxes_sound (C := C) G2.sim (BxC.le (C := C) G2.le hbxC) hbx
    (List.nodup_append.2 ⟨n1.1, n2.2.1, fun x hx y hy => n1.2.2 x hx y (by simp [hy])⟩)
    (fun g hg => by
      have hgT : Taken ρ hp ids g ∨ w.heap.size ≤ g := by
        rcases List.mem_append.1 hg with q | q
        · exact .inl (hbg g q)
        · exact k7 g (by simp [q])
      refine ⟨(hfree g hgT).1, fun hl => ?_⟩
      rcases G2.lives g hl with y | y
      · exact (hfree g hgT).2 y
      · rcases List.mem_append.1 hg with q | q
        · exact n1.2.2 g q g (by simp [y]) rfl
        · exact n2.2.2 g y g q rfl)
    (fun p hp1 => by
      obtain ⟨q, hq⟩ := List.mem_iff_getElem?.1 hp1
      rw [List.getElem?_zip_eq_some] at hq
      obtain ⟨q1, q2⟩ := hq
      have hm := List.mem_of_getElem? q1
      have hk := killIds_get ids hp p.1
      rw [if_pos hm] at hk
      have hnd := bxC_live hbxC p hp1
      simp only [List.getElem?_map, q1, Option.map_some, Option.some.injEq] at q2
      rw [← q2] at hnd
      have hlt : p.1 < hp.length := by
        refine Nat.lt_of_not_le fun hle => hnd ?_
        simp [List.getD, List.getElem?_eq_none hle]
      have hlt' : p.1 < (killIds ids hp).length := by rw [killIds_len]; exact hlt
      rw [htl]
      refine ⟨by rw [List.length_append]; omega, ?_⟩
      refine Eq.trans ?_ hk
      simp only [List.getD]
      rw [List.getElem?_append_left hlt'])
    (by
      rw [List.map_fst_zip (by simp)]
      exact hn)
  exact ⟨vals, _, _, fz', ρ3, by rw [k2], h, RepDs.mono R2 fun v l _ hv => rep_le hv L3, H3, (Mv.of_fz x1).trans hM, fun b v hp => L3 b _ (G2.le b _ hp)⟩

theorem noRef_spec {r : Nat} {hp : List B} (h : noRef r hp = true) (b : Nat) : ∀ i ∈ refsB (hp.getD b .dead), i ≠ r := by
  intro i hi e
  subst e
  by_cases hb : b < hp.length
  · have := List.all_eq_true.1 h _ (List.getElem_mem hb)
    simp only [List.getD, List.getElem?_eq_getElem hb, Option.getD_some] at hi
    simp [hi] at this
  · simp [List.getD, List.getElem?_eq_none (Nat.le_of_not_lt hb), refsB] at hi
theorem HSim.swap {hp : List B} (H : HSim C.P w fz ρ Wr hp) {r : Nat} {v v' : Value} {B : B} (hlive : hp.getD r .dead ≠ .dead) (hv : ρ r = some v) (hb : ∀ g, Bl v' g → Bl v g) (h1 : v'.oneCell' = true)
    (hnr : noRef r hp = true) (hB : BS C.P w fz (fun i => if i = r then some v' else ρ i) r B) : HSim C.P w fz (fun i => if i = r then some v' else ρ i) Wr (hp.set r B) := by
  have hρ : ∀ b, b ≠ r → ∀ u, ρ b = some u → (fun i => if i = r then some v' else ρ i) b = some u := fun b hb u hu => by simp [hb, hu]
  have hlt := _root_.Go.Ab.live_lt hlive
  have hl : ∀ b, (hp.set r B).getD b .dead ≠ .dead → hp.getD b .dead ≠ .dead := by
    intro b h
    rw [getD_set] at h
    split at h
    · rename_i e; rw [← e.1]; exact hlive
    · exact h
  refine ⟨fun b u hu => ?_, fun b h => ?_, fun b => ?_, fun b c v1 u1 g1 hne h1 h2 hv1 hu1 e1 e2 => ?_, fun b u g1 h1 hu hg1 => ?_, H.lt⟩
  · split at hu
    · cases hu; exact h1
    · exact H.one b u hu
  · simp at h
    rw [if_neg (by omega)]
    exact H.out b h
  · rw [getD_set]
    split
    · rename_i e; rw [← e.1]; exact hB
    · rename_i e
      have hne : b ≠ r := fun e' => e ⟨e'.symm, hlt⟩
      refine (H.blk b).mono C.P (Kp.refl _ _) (fun _ _ h => h) (hρ b hne) (fun _ _ _ _ => ⟨rfl, fun _ h => h⟩) fun i hi u hu => hρ i (noRef_spec hnr b i hi) u hu
  · by_cases a : b = r
    · have b' : c ≠ r := fun b' => hne (a.trans b'.symm)
      rw [if_pos a] at hv1; cases hv1
      rw [if_neg b'] at hu1
      exact H.dis r c v u1 g1 (fun e => b' e.symm) hlive (hl c h2) hv hu1 (hb g1 e1) e2
    · rw [if_neg a] at hv1
      by_cases b' : c = r
      · rw [if_pos b'] at hu1; cases hu1
        exact H.dis b r v1 v g1 a (hl b h1) hlive hv1 hv e1 (hb g1 e2)
      · rw [if_neg b'] at hu1
        exact H.dis b c v1 u1 g1 hne (hl b h1) (hl c h2) hv1 hu1 e1 e2
  · by_cases a : b = r
    · rw [if_pos a] at hu; cases hu
      exact H.wr r v g1 hlive hv (hb g1 hg1)
    · rw [if_neg a] at hu
      exact H.wr b u g1 (hl b h1) hu hg1

theorem callP_sound {G : Req → R} (hG : EnterOk C G) (hE : ExtOk C) (S : Sim C.P w fz ρ Wr a st) (hw : Env C w Wr) {f : FuncId} {args : List D} {vs : Array Value} {κ : D → St → R} {r : List L}
    (hargs : RepDs (Rep C.P w fz ρ) vs.toList args) (h : callP C G f args st κ = some r) :
    Calls C.P f vs w fun e w' => ∃ v d st' fz' ρ', e = .returned v ∧ κ d st' = some r ∧ RepD (Rep C.P w' fz' ρ') v d ∧ Sim C.P w' fz' ρ' Wr a st' ∧ Mv Wr w fz w' fz' ∧ RhoLe ρ ρ' := by
  unfold callP at h
  split at h
  · cases h
  rename_i p args' hp hpin
  unfold pinA at hpin
  split at hpin
  · -- a slice is handed over
    rename_i rr rest hm0
    split at hpin
    case h_2 => cases hpin
    rename_i t xs hb
    split at hpin
    case isFalse => cases hpin
    rename_i hcond
    simp only [Bool.and_eq_true, Bool.not_eq_true', List.contains_eq_mem, decide_eq_false_iff_not] at hcond
    obtain ⟨hnin, hnr⟩ := hcond
    simp only [Option.some.injEq, Prod.mk.injEq] at hpin
    obtain ⟨rfl, rfl, rfl⟩ := hpin
    have hlive : st.hp.getD rr .dead ≠ .dead := by rw [hb]; simp
    have hB := S.hp.blk rr
    rw [hb] at hB
    obtain ⟨v0, us, h1, h2, h3, h4, h5, h6, h7, h8⟩ := hB
    have hnofz : ∀ g o, bk v0 = some g → ¬ fz g o := fun g o hg ho => by have := (h7 g o hg ho).1; cases this
    have none_refs : ∀ {ρ1 : Rho} {w1 : World} {fz1 : Fz} {us : List Value} {xs : List (List L)} {t : TypeId} {ρ2 : Rho}, (∀ e ∈ xs, Conf C.P t e) → RepLs (Rep C.P w1 fz1 ρ1) us xs.flatten → RepLs (Rep C.P w1 fz1 ρ2) us xs.flatten := by
      intro ρ1 w1 fz1 us xs t ρ2 hc h
      refine h.mono fun u l hl hu => ?_
      obtain ⟨e, he, hle⟩ := List.mem_flatten.1 hl
      obtain ⟨kk, hk⟩ := HasKs.mem (hc e he) l hle
      exact hu.of_hasK C.P hk
    have H1 : HSim C.P w fz (fun i => if i = rr then some (pinV v0) else ρ i) Wr (st.hp.set rr (.arr t xs)) :=
      S.hp.swap (C := C) hlive h1 (fun g hg => .of (bl_pinV.1 hg)) rfl hnr ⟨v0, us, by simp, h2, none_refs h4 h3, h4, h5, h6, hnofz⟩
    have hargs1 : RepDs (Rep C.P w fz (fun i => if i = rr then some (pinV v0) else ρ i)) vs.toList (.lf (.ars rr) :: rest) := by
      generalize vs.toList = vl at hargs
      match vl, hargs with
      | v :: vl, hargs =>
        refine ⟨?_, RepDs.mono hargs.2 fun v l hl hv => hv.mono C.P (Kp.refl _ _) (fun _ _ h => h) fun b hb u hu => ?_⟩
        · have := hargs.1
          simp only [RepD] at this ⊢
          cases this with
          | row _ _ u0 hx hlk =>
            rw [h1] at hx; cases hx
            rcases hlk.own h2 with rfl | ⟨rfl, _, _, a0, rfl⟩
            · rcases h2.2 with ⟨rfl, _⟩ | ⟨g, cap, cur, rfl, _⟩
              · exact .ars rr _ _ _ _ (by simp) (.refl _)
              · exact .ars rr _ _ _ _ (by simp) (.refl _)
            · exact .ars rr _ _ _ _ (by simp) hlk
        · have : b ≠ rr := fun e => hnin (e ▸ hl b hb)
          simp [this, hu]
    refine (callB_sound hG hE H1 hw hargs1 h).mono ?_
    rintro e w' ⟨vals, ds, hp', fz', ρ', rfl, h, R, H2, M, L⟩
    split at h
    case h_2 => cases h
    rename_i hp2 hun
    simp only [unpinA] at hun
    split at hun
    case h_2 => cases hun
    rename_i t' xs' hb'
    split at hun
    case isFalse => cases hun
    rename_i hcond
    simp only [Bool.and_eq_true, Bool.not_eq_true', List.contains_eq_mem, decide_eq_false_iff_not] at hcond
    obtain ⟨hnin', hnr'⟩ := hcond
    simp only [Option.some.injEq] at hun
    subst hun
    have hlive' : hp'.getD rr .dead ≠ .dead := by rw [hb']; simp
    have hpin : ρ' rr = some (pinV v0) := L rr _ (by simp)
    have hB' := H2.blk rr
    rw [hb'] at hB'
    obtain ⟨v1, us', k1, k2, k3, k4, k5, k6, k7⟩ := hB'
    rw [hpin] at k1
    obtain rfl := pinV_inj (Option.some.inj k1)
    have H3 : HSim C.P w' fz' (fun i => if i = rr then some v0 else ρ' i) Wr (hp'.set rr (.row t' xs' true)) :=
      H2.swap (C := C) hlive' hpin (fun g hg => bl_pinV.2 (hg.own k2)) (by rcases k2.2 with ⟨rfl, _⟩ | ⟨_, _, _, rfl, _⟩ <;> rfl) hnr' ⟨v0, us', by simp, k2, none_refs k4 k3, k4, k5, k6, fun g o hg ho => absurd ho (k7 g o hg), fun h => by cases h⟩
    have hall : ∀ b v, ρ b = some v → (fun i => if i = rr then some v0 else ρ' i) b = some v := by
      intro b v hv
      by_cases e : b = rr
      · subst e; rw [h1] at hv; cases hv; simp
      · have := L b v (by simp [e, hv])
        simp [e, this]
    refine ⟨_, _, _, fz', _, rfl, h, rep_retV (RepDs.mono R fun v l hl hv => hv.mono C.P (Kp.refl _ _) (fun _ _ h => h) fun b hb u hu => ?_), ⟨?_, H3⟩, M, fun b v _ hv => hall b v hv⟩
    · have : b ≠ rr := fun e => hnin' (e ▸ hl b hb)
      simp [this, hu]
    · exact RepDs.mono S.tm fun v l _ hv => hv.mono C.P M.keep M.ext.1 fun b _ v hv => hall b v hv
  · -- no slice
    simp only [Option.some.injEq, Prod.mk.injEq] at hpin
    obtain ⟨rfl, rfl, rfl⟩ := hpin
    refine (callB_sound hG hE S.hp hw hargs h).mono ?_
    rintro e w' ⟨vals, ds, hp', fz', ρ', rfl, h, R, H2, M, L⟩
    simp only [unpinA] at h
    exact ⟨_, _, _, fz', ρ', rfl, h, rep_retV R, ⟨RepDs.mono S.tm fun v l _ hv => hv.mono C.P M.keep M.ext.1 fun b _ v hv => L b v hv, H2⟩, M, fun b v _ hv => L b v hv⟩

theorem rep_forget {r : Value → L → Prop} (hr : ∀ v, r v .any) : ∀ {ks : List K} {vs : List Value} {cs : List L}, RepLs r vs cs → RepLs r vs (forgetLs ks cs)
  | [], _, _, h => by simpa [forgetLs] using h
  | k :: _, [], [], h => by cases k <;> simpa [forgetLs] using h
  | k :: ks, v :: vs, c :: cs, h => by
    cases k <;> simp only [forgetLs] <;> first
      | exact ⟨h.1, rep_forget hr h.2⟩
      | exact ⟨hr v, rep_forget hr h.2⟩
theorem ty_forget : ∀ {ks : List K} {cs : List L}, TyB ks cs → TyB ks (forgetLs ks cs)
  | [], [], _ => trivial
  | k :: ks, c :: cs, h => by
    cases k <;> simp only [forgetLs] <;> first
      | exact ⟨h.1, ty_forget h.2⟩
      | exact ⟨trivial, ty_forget h.2⟩
theorem HSim.forget {hp : List B} (H : HSim C.P w fz ρ Wr hp) : HSim C.P w fz ρ Wr (hp.map forgetB) := by
  have hg : ∀ b, (hp.map forgetB).getD b .dead = forgetB (hp.getD b .dead) := by
    intro b
    simp only [List.getD, List.getElem?_map]
    cases hp[b]? <;> rfl
  have hd : ∀ b, (hp.map forgetB).getD b .dead ≠ .dead → hp.getD b .dead ≠ .dead := by
    intro b h e
    rw [hg, e] at h
    exact h rfl
  refine ⟨H.one, fun b h => H.out b (by simpa using h), fun b => ?_, fun b c v u g hne h1 h2 => H.dis b c v u g hne (hd b h1) (hd c h2), fun b u g h1 => H.wr b u g (hd b h1), H.lt⟩
  rw [hg]
  have hb := H.blk b
  cases hc : hp.getD b .dead with
  | box ks cs =>
    rw [hc] at hb
    obtain ⟨g, us, t, h1, h2, h3, h4, h5⟩ := hb
    exact ⟨g, us, t, h1, h2, rep_forget (fun v => .any v) h3, ty_forget h4, h5⟩
  | _ => rw [hc] at hb; exact hb
theorem callA_sound {G : Req → R} (hG : EnterOk C G) (hE : ExtOk C) (S : Sim C.P w fz ρ Wr a st) (hw : Env C w Wr) {f : FuncId} {args : List D} {vs : Array Value} {κ : D → St → R} {r : List L}
    (hargs : RepDs (Rep C.P w fz ρ) vs.toList args) (h : callA C G f args st κ = some r) :
    Calls C.P f vs w fun e w' => ∃ v d st' fz' ρ', e = .returned v ∧ κ d st' = some r ∧ RepD (Rep C.P w' fz' ρ') v d ∧ Sim C.P w' fz' ρ' Wr a st' ∧ Mv Wr w fz w' fz' ∧ RhoLe ρ ρ' := by
  unfold callA at h
  split at h
  · exact callP_sound (st := { st with hp := st.hp.map forgetB }) hG hE ⟨S.tm, S.hp.forget⟩ hw hargs h
  · exact callP_sound hG hE S hw hargs h

end
end Go.Ab
namespace Go.Ab
section
variable {C : Cfg} {w w' : World} {fz fz' : Fz} {ρ : Rho} {Wr : Nat → Prop} {a : Act} {st : St}
theorem hasAll_spec : ∀ {ks : List K} {ls : List L}, hasAll ks ls = true → HasKs ks ls
  | [], [], _ => trivial
  | [], _ :: _, h => by simp [hasAll] at h
  | k :: ks, [], h => by cases k <;> simp [hasAll] at h
  | k :: ks, l :: ls, h => by
    cases k <;> cases l <;> simp only [hasAll, Bool.and_eq_true, decide_eq_true_eq, Bool.false_eq_true] at h
    · obtain ⟨rfl, h⟩ := h; exact ⟨⟨_, rfl⟩, hasAll_spec h⟩
    · exact ⟨⟨_, rfl⟩, hasAll_spec h⟩
    · exact ⟨⟨_, rfl⟩, hasAll_spec h⟩
    · obtain ⟨rfl, h⟩ := h; exact ⟨⟨_, rfl⟩, hasAll_spec h⟩
theorem freeze (S : Sim C.P w fz ρ Wr a st) {b : Nat} {t : TypeId} {cs : List L} (hb : st.hp.getD b .dead = .box (kinds C.P t) cs) (hh : hasAll (kinds C.P t) cs = true) {v : Value} (hv : Rep C.P w fz ρ v (.ptr b 0)) :
    ∃ fz' : Fz, FzExt fz fz' Wr ∧ Sim C.P w fz' ρ Wr a { st with hp := st.hp.set b .dead } ∧ Rep C.P w fz' ρ v (.eptr t cs 0) := by
  have hB := S.hp.blk b
  rw [hb] at hB
  obtain ⟨g, us, tt, h1, h2, h3, h4, h5, h6⟩ := hB
  have hlive : st.hp.getD b .dead ≠ .dead := by rw [hb]; simp
  have hblt := live_lt hlive
  have hg : g < w.heap.size := (Array.getElem?_eq_some_iff.1 h2).1
  have hwr : Wr g := S.hp.wr b _ g hlive h1 (.of rfl)
  have hf : ∀ g' o, fz g' o → (fz g' o ∨ g' = g) := fun _ _ h => .inl h
  refine ⟨fun g' o => fz g' o ∨ g' = g, ⟨hf, fun g' o h => h.elim .inl fun (e : g' = g) => .inr (by rw [e]; exact hwr)⟩, ⟨RepDs.mono S.tm fun v l _ h => h.fz (P := C.P) hf, ?_⟩, ?_⟩
  · have hl : ∀ c, (st.hp.set b .dead).getD c .dead ≠ .dead → c ≠ b ∧ st.hp.getD c .dead ≠ .dead := by
      intro c h
      rw [getD_set] at h
      split at h
      · exact absurd rfl h
      · rename_i e
        refine ⟨fun e' => e ⟨e'.symm, hblt⟩, h⟩
    refine ⟨S.hp.one, fun c h => S.hp.out c (by simpa using h), fun c => ?_, fun c d v1 u1 g1 hne h1 h2 => S.hp.dis c d v1 u1 g1 hne (hl c h1).2 (hl d h2).2, fun c u g1 h1 => S.hp.wr c u g1 (hl c h1).2, fun g' o h => h.elim (S.hp.lt g' o) fun e => e ▸ hg⟩
    by_cases hd : (st.hp.set b .dead).getD c .dead = .dead
    · rw [hd]; trivial
    · obtain ⟨hne, hlc⟩ := hl c hd
      have e : (st.hp.set b .dead).getD c .dead = st.hp.getD c .dead := by
        rw [getD_set, if_neg]
        exact fun e => hne e.1.symm
      rw [e]
      refine (S.hp.blk c).mono C.P (.refl _ _) hf (fun _ h => h) (fun u g1 hu hg1 => ⟨rfl, fun o ho => ho.elim id fun e => ?_⟩) (fun _ _ _ h => h)
      subst e
      exact absurd (.of rfl) (S.hp.dis c b u _ g1 hne hlc hlive hu h1 hg1)
  · cases hv with
    | ptr _ _ ad h7 =>
      rw [h1] at h7
      cases h7
      have hk : ∀ (k : Nat) l, cs[k]? = some l → ∃ u, us.toList[k]? = some u ∧ Rep C.P w fz ρ u l := fun k l hl => h3.get k l hl
      refine .eptr t cs 0 (fun k => us.toList.getD k undef) ⟨g, 0, none⟩ (hasAll_spec hh) (fun k l hl => ?_) (fun k l hl => .inr ?_) (fun k l hl => ?_)
      · obtain ⟨u, q1, _⟩ := hk k l hl
        have : (Addr.mk g 0 none).add k = ⟨g, k, none⟩ := by
          simp [Addr.add]
          omega
        rw [this, cell_box h2, q1]
        simp only [List.getD, q1, Option.getD_some]
      · exact show ((Addr.mk g 0 none).add k).block = g by unfold Addr.add; split <;> rfl
      · obtain ⟨u, q1, q2⟩ := hk k l hl
        simp only [List.getD, q1, Option.getD_some]
        exact q2.fz (P := C.P) hf
theorem opOk_frzB {o : Oper} {κ : D → St → R} {r : List L} {t : TypeId} (h : OpOk C w fz ρ Wr a o (fun d s => κ (frzB C t d s).1 (frzB C t d s).2) r) : OpOk C w fz ρ Wr a o κ r := by
  obtain ⟨d, st', v, w', fz', ρ', h1, h2, h3, h4, h5, h6⟩ := h
  dsimp only at h1
  have keep : (frzB C t d st') = (d, st') → OpOk C w fz ρ Wr a o κ r := fun e => ⟨d, st', v, w', fz', ρ', by rw [e] at h1; exact h1, h2, h3, h4, h5, h6⟩
  by_cases hc : frzB C t d st' = (d, st')
  · exact keep hc
  · unfold frzB at hc
    split at hc
    · exact absurd rfl hc
    rename_i hrd
    split at hc
    case h_2 => exact absurd rfl hc
    rename_i b
    split at hc
    case h_2 => exact absurd rfl hc
    rename_i ks cs hb
    split at hc
    case isFalse => exact absurd rfl hc
    rename_i hif
    obtain ⟨rfl, hh⟩ := hif
    obtain ⟨fz2, e1, e2, e3⟩ := freeze h3 hb hh h2
    have e : frzB C t (.lf (.ptr b 0)) st' = (.lf (.eptr t cs 0), { st' with hp := st'.hp.set b .dead }) := by
      unfold frzB
      simp only [hrd, hb, hh, and_self, if_true]
    rw [e] at h1
    exact ⟨_, _, v, w', fz2, ρ', h1, e3, e2, h4.trans (.of_fz e1), h5, h6⟩
theorem frzB_sim {t : TypeId} {d : D} {v : Value} (S : Sim C.P w fz ρ Wr a st) (hd : RepD (Rep C.P w fz ρ) v d) :
    ∃ fz' : Fz, FzExt fz fz' Wr ∧ Sim C.P w fz' ρ Wr a (frzB C t d st).2 ∧ RepD (Rep C.P w fz' ρ) v (frzB C t d st).1 ∧ (frzB C t d st).2.tm = st.tm := by
  by_cases hc : frzB C t d st = (d, st)
  · rw [hc]; exact ⟨fz, .refl, S, hd, rfl⟩
  · unfold frzB at hc
    split at hc
    · exact absurd rfl hc
    rename_i hrd
    split at hc
    case h_2 => exact absurd rfl hc
    rename_i b
    split at hc
    case h_2 => exact absurd rfl hc
    rename_i ks cs hb
    split at hc
    case isFalse => exact absurd rfl hc
    rename_i hif
    obtain ⟨rfl, hh⟩ := hif
    obtain ⟨fz2, e1, e2, e3⟩ := freeze S hb hh hd
    have e : frzB C t (.lf (.ptr b 0)) st = (.lf (.eptr t cs 0), { st with hp := st.hp.set b .dead }) := by
      unfold frzB
      simp only [hrd, hb, hh, and_self, if_true]
    rw [e]
    exact ⟨fz2, e1, e2, e3, rfl⟩
theorem opOk_frzT {o : Oper} {κ : D → St → R} {r : List L} {t : TypeId} {x : Operand} (h : OpOk C w fz ρ Wr a o (fun d s => κ d (frzT C t x s)) r) : OpOk C w fz ρ Wr a o κ r := by
  obtain ⟨d, st', v, w', fz', ρ', h1, h2, h3, h4, h5, h6⟩ := h
  dsimp only at h1
  unfold frzT at h1
  split at h1
  · exact ⟨d, st', v, w', fz', ρ', h1, h2, h3, h4, h5, h6⟩
  split at h1
  case h_2 => exact ⟨d, st', v, w', fz', ρ', h1, h2, h3, h4, h5, h6⟩
  rename_i k
  by_cases hk : k < st'.tm.length
  · obtain ⟨u, hu⟩ : ∃ u, a.tmps.toList[k]? = some u := ⟨_, List.getElem?_eq_getElem (by rw [h3.tm.length]; exact hk)⟩
    obtain ⟨d0, q1, q2⟩ := RepDs.get' _ h3.tm k u hu
    have e0 : st'.tm.getD k (.lf .any) = d0 := by simp [List.getD, q1]
    rw [e0] at h1
    obtain ⟨fz2, e1, e2, e3, e4⟩ := frzB_sim (t := t) h3 q2
    refine ⟨d, _, v, w', fz2, ρ', h1, RepD.mono h2 fun _ _ _ h => h.fz (P := C.P) e1.1, ⟨?_, e2.hp⟩, h4.trans (.of_fz e1), h5, h6⟩
    have := RepDs.set _ e2.tm k e3
    rw [e4] at this
    have hset : a.tmps.toList.set k u = a.tmps.toList := by
      apply List.ext_getElem?
      intro i
      rw [List.getElem?_set]
      split
      · rename_i e; subst e; split <;> simp_all
      · rfl
    rw [hset] at this
    exact this
  · have e0 : st'.tm.getD k (.lf .any) = .lf .any := by simp [List.getD, List.getElem?_eq_none (Nat.le_of_not_lt hk)]
    have e1 : frzB C t (.lf .any) st' = (.lf .any, st') := by unfold frzB; split <;> rfl
    rw [e0, e1, List.set_eq_of_length_le (Nat.le_of_not_lt hk)] at h1
    exact ⟨d, st', v, w', fz', ρ', h1, h2, h3, h4, h5, h6⟩
end
end Go.Ab
namespace Go.Ab
section
variable {C : Cfg} {w w' : World} {fz fz' : Fz} {ρ ρ' : Rho} {Wr : Nat → Prop} {a : Act} {st : St}

theorem cond_some {g : Bool} {x : R} {r : List L} (h : cond g x none = some r) : g = true ∧ x = some r := by
  cases g
  · cases h
  · exact ⟨rfl, h⟩

theorem Sim.putTmp (S : Sim C.P w fz ρ Wr a st) (dst : Option Tmp) {v : Value} {d : D} (h : RepD (Rep C.P w fz ρ) v d) : Sim C.P w fz ρ Wr (a.put dst v) (st.put dst d) := by
  cases dst with
  | none => exact S
  | some t =>
    refine ⟨?_, S.hp⟩
    show RepDs _ (a.tmps.setIfInBounds t v).toList (st.tm.set t d)
    rw [Array.toList_setIfInBounds]
    exact S.tm.set _ t h

def After (C : Cfg) (w : World) (fz : Fz) (ρ : Rho) (Wr : Nat → Prop) (a : Act) (κ : D → St → R) (r : List L) (v : Value) (w' : World) : Prop :=
  ∃ d st' fz' ρ', κ d st' = some r ∧ RepD (Rep C.P w' fz' ρ') v d ∧ Sim C.P w' fz' ρ' Wr a st' ∧ Mv Wr w fz w' fz' ∧ RhoLe ρ ρ'

theorem OpOk.wp {o : Oper} {κ : D → St → R} {r : List L} (h : OpOk C w fz ρ Wr a o κ r) {next : Act → World → Prop} {Q : Exit → Act → World → Prop}
    (hk : ∀ v w', After C w fz ρ Wr a κ r v w' → next (a.put o.dst v) w') : o.wp C.P a w next Q := by
  obtain ⟨d, st', v, w', fz', ρ', k1, k2, k3, k4, k5, k6⟩ := h
  have hn := hk v w' ⟨d, st', fz', ρ', k1, k2, k3, k4, k5⟩
  unfold Oper.wp
  rcases k6 with e | ⟨e, rfl⟩
  · rw [e]; exact hn
  · rw [e]; exact hn

theorem PureOk.opOk {o : Oper} {d : D} {hp' : List B} (S : Sim C.P w fz ρ Wr a st) (h : PureOk C w fz ρ Wr a o d hp' st.hp.length) {κ : D → St → R} {r : List L} (hκ : κ d { st with hp := hp' } = some r) :
    OpOk C w fz ρ Wr a o κ r := by
  obtain ⟨v, fz', h1, h2, h3, h4, h5⟩ := h
  exact ⟨d, _, v, w, fz', ρ, hκ, h2, S.fzmono h4.1 h3, .of_fz h4, .refl ρ, .inl (h1 w fun _ _ _ => rfl)⟩

def NoCount (P : Program) : Prop := ∀ (f : FuncId) (fn : Func), P.funcs[f]? = some fn → (fn.name == "runtime.NumGoroutine") = false

theorem run_call_clo {o : Oper} {c : Call} {x : Operand} {f : FuncId} {vs : Array Value} {fn : Func} (hN : NoCount C.P) (hop : o.op = .call c) (hc : c.callee = .value x) (hx : a.eval x = .func (.func f) #[] vs)
    (hf : C.P.funcs[f]? = some fn) (hb : fn.body.isNone = false) : (execOp a.eval o).run C.P w = .ok (.enter f (c.args.map a.eval ++ vs)) w := by
  have hn := hN f fn hf
  simp only [execOp, hop, resolve, hc, hx, Deferred.ofValue, invoke, callFunc]
  have hn' : fn.name ≠ "runtime.NumGoroutine" := by simpa using hn
  have hb' : fn.body ≠ none := by intro e; rw [e] at hb; cases hb
  simp [program, Sem.run, hf, hn', hb']

theorem opA_sound {G : Req → R} (hG : EnterOk C G) (hE : ExtOk C) (hN : NoCount C.P) (S : Sim C.P w fz ρ Wr a st) (hw : Env C w Wr) {o : Oper} {κ : D → St → R} {r : List L}
    (h : opA C G o st κ = some r) {next : Act → World → Prop} {Q : Exit → Act → World → Prop} (hk : ∀ v w', After C w fz ρ Wr a κ r v w' → next (a.put o.dst v) w') : o.wp C.P a w next Q := by
  unfold opA at h
  split at h
  · rename_i g d hp hpure
    obtain ⟨hg, h⟩ := cond_some h
    exact ((pureA_sound S hpure hg).opOk S h).wp hk
  · have h0 := h
    unfold effA at h
    split at h
    · rename_i t hop; exact (alloc_ok S hw.1 hop h0).wp hk
    · rename_i t x hop; exact (opOk_frzB (box_ok S hw.1 hop h)).wp hk
    · rename_i t len parts hop; exact (buildSlice_ok S hw.1 hop h0).wp hk
    · rename_i t x y hop; exact (opOk_frzT (store_ok S hop h)).wp hk
    · rename_i t l c hop; exact (makeSlice_ok S hw.1 hop h0).wp hk
    · rename_i op t x ty hop; exact (nilEq_ok S hop h0).wp hk
    · rename_i t x hop; exact (range_ok S hw.1 hop h0).wp hk
    · rename_i it hop; exact (next_ok S hop h0).wp hk
    · rename_i it hop; exact (nextM_ok S hop h0).wp hk
    · rename_i c hop
      split at h
      · rename_i hcal
        split at h
        · rename_i s x hargs
          have : c.args = #[s, x] := by rw [← Array.toArray_toList (xs := c.args), hargs]
          exact (append_ok S hw.1 hop hcal this h).wp hk
        · cases h
      · rename_i x hcal
        split at h
        · rename_i f cs hl
          have hx := S.leaf x
          rw [hl] at hx
          generalize hv : a.eval x = vx at hx
          cases hx with
          | clo _ vs _ hsz hcs =>
            obtain ⟨fn, hf, hb⟩ := callA_body h
            have hrun := run_call_clo (w := w) hN hop hcal hv hf hb
            have hargs : RepDs (Rep C.P w fz ρ) (c.args.map a.eval ++ vs).toList (c.args.toList.map st.ev ++ cs.map .lf) := by
              rw [Array.toList_append]
              refine RepDs.append _ ?_ ?_
              · rw [Array.toList_map]
                refine RepDs.of _ (by simp) fun i v d h1 h2 => ?_
                simp only [List.getElem?_map, Option.map_eq_some_iff] at h1 h2
                obtain ⟨y, e1, rfl⟩ := h1
                obtain ⟨y', e2, rfl⟩ := h2
                rw [e1] at e2; cases e2
                exact S.ev y
              · refine RepDs.of _ (by simp [hsz]) fun i v d h1 h2 => ?_
                simp only [List.getElem?_map, Option.map_eq_some_iff] at h2
                obtain ⟨l, e2, rfl⟩ := h2
                have := hcs i l e2
                have e1 : vs.getD i undef = v := by
                  have : vs[i]? = some v := by simpa using h1
                  simp [this]
                rw [e1] at this
                exact this
            have hc := callA_sound hG hE S hw hargs h
            unfold Oper.wp
            rw [hrun, Oper.upon_enter]
            refine hc.mono ?_
            rintro e w' ⟨v, d, st', fz', ρ', rfl, k1, k2, k3, k4, k5⟩
            exact hk v w' ⟨d, st', fz', ρ', k1, k2, k3, k4, k5⟩
        · cases h
      · cases h
    · cases h

end
end Go.Ab
namespace Go.Ab

def Only {α : Type} (T : Nat → Prop) (A : α → Prop) : Sem α → Prop
  | .pure a => A a
  | .load _ _ k => ∀ v, Only T A (k v)
  | .store _ a _ k => T a.block ∧ Only T A k
  | .new _ k => ∀ n, Only T A (k n)
  | .shape _ k => ∀ s, Only T A (k s)
  | .freeze _ _ _ => False
  | .frozen _ k => ∀ b, Only T A (k b)
  | .getObj _ k => ∀ o, Only T A (k o)
  | .setObj _ _ _ => False
  | .choose _ k => ∀ n, Only T A (k n)
  | .sys _ _ => False
  | .program k => ∀ p, Only T A (k p)
  | .mark _ k => Only T A k
  | .halt _ => True

theorem Only.bind {α β : Type} {T : Nat → Prop} {A : α → Prop} {B : β → Prop} {f : α → Sem β} : ∀ {s : Sem α}, Only T A s → (∀ a, A a → Only T B (f a)) → Only T B (s >>= f)
  | .pure a, h, k => k a h
  | .load _ _ g, h, k => fun v => Only.bind (s := g v) (h v) k
  | .store _ _ _ g, h, k => ⟨h.1, Only.bind (s := g) h.2 k⟩
  | .new _ g, h, k => fun v => Only.bind (s := g v) (h v) k
  | .shape _ g, h, k => fun v => Only.bind (s := g v) (h v) k
  | .freeze _ _ _, h, _ => h.elim
  | .frozen _ g, h, k => fun v => Only.bind (s := g v) (h v) k
  | .getObj _ g, h, k => fun v => Only.bind (s := g v) (h v) k
  | .setObj _ _ _, h, _ => h.elim
  | .choose _ g, h, k => fun v => Only.bind (s := g v) (h v) k
  | .sys _ _, h, _ => h.elim
  | .program g, h, k => fun v => Only.bind (s := g v) (h v) k
  | .mark _ g, h, k => Only.bind (s := g) h k
  | .halt _, _, _ => trivial
theorem Only.mono {α : Type} {T : Nat → Prop} {A B : α → Prop} {s : Sem α} (h : Only T A s) (k : ∀ a, A a → B a) : Only T B s := by
  have := Only.bind (f := fun a => (pure a : Sem α)) h (B := B) k
  have e : ∀ s : Sem α, s.bind (fun a => .pure a) = s := by
    intro s
    induction s <;> simp_all [Sem.bind]
    rename_i h
    funext b
    cases b
    · exact h.1
    · exact h.2
  have e' : (s >>= fun a => (pure a : Sem α)) = s := e s
  rwa [e'] at this

def Rowed (T : Nat → Prop) (w : World) : Prop := ∀ g, T g → ∃ us t m, w.heap[g]? = some (.cells us t m)
def Kept (T : Nat → Prop) (w w' : World) : Prop := w.heap.size ≤ w'.heap.size ∧ (∀ k, k < w.heap.size → ¬ T k → w'.heap[k]? = w.heap[k]?) ∧ Rowed T w'
theorem Kept.trans {T : Nat → Prop} {a b c : World} (h : Kept T a b) (k : Kept T b c) : Kept T a c :=
  ⟨Nat.le_trans h.1 k.1, fun i hi hn => (k.2.1 i (Nat.lt_of_lt_of_le hi h.1) hn).trans (h.2.1 i hi hn), k.2.2⟩

theorem rowed_set {T : Nat → Prop} {w : World} (h : Rowed T w) (a : Addr) (v : Value) : Rowed T (w.setCell a v) := by
  intro g hg
  obtain ⟨us, t, m, e⟩ := h g hg
  simp only [World.setCell, Array.getElem?_modify]
  split
  · rw [e]; exact ⟨_, _, _, rfl⟩
  · rw [e]; exact ⟨_, _, _, rfl⟩

theorem Only.run {α : Type} {T : Nat → Prop} {A : α → Prop} {P : Program} : ∀ {s : Sem α} {w w' : World} {x : α}, Only T A s → Rowed T w → s.run P w = .ok x w' → A x ∧ Kept T w w'
  | .pure a, w, w', x, h, hT, e => by
    simp only [Sem.run, Result.ok.injEq] at e
    obtain ⟨rfl, rfl⟩ := e
    exact ⟨h, Nat.le_refl _, fun _ _ _ => rfl, hT⟩
  | .load m a g, w, w', x, h, hT, e => by
    simp only [Sem.run] at e
    split at e
    · exact Only.run (h _) hT e
    · split at e
      · exact Only.run (h _) hT e
      · cases e
  | .store m a v g, w, w', x, h, hT, e => by
    have key : ∀ v', g.run P (w.setCell a v') = .ok x w' → A x ∧ Kept T w w' := by
      intro v' e
      obtain ⟨k1, k2⟩ := Only.run h.2 (rowed_set hT a v') e
      refine ⟨k1, Kept.trans ⟨by simp [World.setCell], fun k hk hn => ?_, rowed_set hT a v'⟩ k2⟩
      simp only [World.setCell, Array.getElem?_modify]
      rw [if_neg]
      intro e'
      exact hn (e' ▸ h.1)
    have far : ∀ v' (m' : Bool), (match w.farStore P a v' m' with | .ok (w1, _) => g.run P w1 | .error h => .halt h w) = .ok x w' → A x ∧ Kept T w w' := by
      intro v' m' e
      obtain ⟨us, t, q, hb⟩ := hT _ h.1
      simp only [World.farStore, hb] at e
      cases e
    cases v <;> simp only [Sem.run] at e <;> first
      | cases e; done
      | (split at e
         · split at e
           · cases e
           · exact key _ e
         · exact far _ _ e)
  | .new o g, w, w', x, h, hT, e => by
    simp only [Sem.run] at e
    have hT' : Rowed T { w with heap := w.heap.push o } := by
      intro k hk
      obtain ⟨us, t, m, hb⟩ := hT k hk
      exact ⟨us, t, m, by
        have hl := (Array.getElem?_eq_some_iff.1 hb).1
        show (w.heap.push o)[k]? = _
        rw [Array.getElem?_push_lt hl, ← Array.getElem?_eq_getElem hl]; exact hb⟩
    obtain ⟨k1, k2⟩ := Only.run (h _) hT' e
    refine ⟨k1, Kept.trans ⟨by simp, fun k hk _ => ?_, hT'⟩ k2⟩
    show (w.heap.push o)[k]? = _
    rw [Array.getElem?_push_lt hk, ← Array.getElem?_eq_getElem hk]
  | .shape _ g, w, w', x, h, hT, e => Only.run (s := g _) (h _) hT e
  | .freeze _ _ _, _, _, _, h, _, _ => h.elim
  | .frozen _ g, w, w', x, h, hT, e => Only.run (s := g _) (h _) hT e
  | .getObj r g, w, w', x, h, hT, e => by
    simp only [Sem.run] at e
    split at e
    · cases e
    · exact Only.run (h _) hT e
    · cases e
  | .setObj _ _ _, _, _, _, h, _, _ => h.elim
  | .choose q g, w, w', x, h, hT, e => by
    simp only [Sem.run] at e
    split at e
    · exact Only.run (h _) hT e
    · exact Only.run (w := { w with drawn := w.drawn + 1 }) (h _) hT e
  | .sys _ _, _, _, _, h, _, _ => h.elim
  | .program g, w, w', x, h, hT, e => Only.run (s := g _) (h _) hT e
  | .mark _ g, w, w', x, h, hT, e => Only.run (s := g) h hT e
  | .halt _, _, _, _, _, _, e => by simp [Sem.run] at e

def Tame (n : Next) : Prop := (∃ v, n = .value v) ∨ n = .skip
abbrev TT {α : Type} (_ : α) : Prop := True

section
variable {T : Nat → Prop}
theorem only_pure {α : Type} {A : α → Prop} {a : α} (h : A a) : Only T A (pure a : Sem α) := h
theorem only_stuck {α : Type} {A : α → Prop} (s : String) : Only T A (stuck s : Sem α) := trivial
theorem only_unsup {α : Type} {A : α → Prop} (s : Unsupported) : Only T A (unsupported s : Sem α) := trivial
theorem only_v {s : Sem Value} (h : Only T TT s) : Only T Tame (do pure (Next.value (← s)) : Sem Next) := h.bind fun v _ => .inl ⟨v, rfl⟩
theorem only_u {s : Sem Unit} (h : Only T TT s) : Only T Tame (do s; pure Next.skip : Sem Next) := h.bind fun _ _ => .inr rfl
theorem only_program : Only T TT program := fun _ => trivial
theorem only_typeInfo (t : TypeId) : Only T TT (typeInfo t) := Only.bind only_program fun p _ => by
  split
  · trivial
  · trivial
theorem only_underlying (t : TypeId) : Only T TT (underlying t) := Only.bind only_program fun p _ => by
  split
  · trivial
  · trivial
theorem only_zero (t : TypeId) : Only T TT (zeroValue t) := Only.bind (only_typeInfo t) fun p _ => by
  split
  · trivial
  · trivial
theorem only_sizeOf (t : TypeId) : Only T TT (sizeOf t) := Only.bind (only_typeInfo t) fun _ _ => trivial
theorem only_isAgg (t : TypeId) : Only T TT (isAgg t) := Only.bind (only_underlying t) fun p _ => by
  split
  · trivial
  · trivial
  · trivial
theorem only_newRow (t : TypeId) (cs : Array Value) : Only T TT (newRow t cs) := Only.bind (A := TT) (show Only T TT (newObj _) from fun _ => trivial) fun _ _ => trivial
theorem only_loadCells (ad : Addr) : ∀ (n i : Nat) (acc : Array Value), Only T TT (loadCellsFrom ad i n acc)
  | 0, _, _ => trivial
  | n + 1, i, _ => Only.bind (A := TT) (show Only T TT (load _) from fun _ => trivial) fun _ _ => only_loadCells ad n (i + 1) _
theorem only_loadVar (t : TypeId) (ad : Addr) : Only T TT (loadVar t ad) := by
  unfold loadVar
  refine Only.bind (only_isAgg t) fun b _ => ?_
  split
  · exact Only.bind (only_sizeOf t) fun n _ => Only.bind (only_loadCells ad n 0 #[]) fun _ _ => trivial
  · exact fun _ => trivial
theorem only_sureAddr (v : Value) : Only T (fun ad => v = .pointer (some ad)) (Instr.sureAddr v) := by
  unfold Instr.sureAddr
  split
  · exact rfl
  · trivial
theorem only_loadAt (t : TypeId) (v : Value) : Only T TT (Instr.loadAt t v) := Only.bind (only_sureAddr v) fun ad _ => only_loadVar t ad
theorem only_storeCells (ad : Addr) (h : T ad.block) : ∀ (vs : List Value) (i : Nat), Only T TT (storeCells ad vs i)
  | [], _ => trivial
  | v :: vs, i => by
    unfold storeCells
    refine Only.bind (A := TT) (show Only T TT (store _ _) from ⟨?_, trivial⟩) fun _ _ => only_storeCells ad h vs (i + 1)
    show T (ad.add i).block
    have : (ad.add i).block = ad.block := by unfold Addr.add; split <;> rfl
    rw [this]; exact h
theorem only_storeAt (t : TypeId) (v u : Value) (h : ∀ ad, v = .pointer (some ad) → T ad.block) : Only T TT (Instr.storeAt t v u) := by
  refine Only.bind (only_sureAddr v) fun ad e => ?_
  unfold storeVar
  refine Only.bind (only_sizeOf t) fun n _ => ?_
  split
  · trivial
  · exact only_storeCells ad (h ad e) _ 0
theorem only_alloc (t : TypeId) : Only T TT (Instr.alloc t true (.tuple #[])) := by
  unfold Instr.alloc
  exact Only.bind (only_zero t) fun z _ => Only.bind (only_newRow t _) fun _ _ => trivial
theorem only_box (t : TypeId) (v : Value) : Only T TT (Instr.box t v) := by
  unfold Instr.box
  exact Only.bind (only_newRow t _) fun _ _ => trivial
theorem only_buildSlice (t : TypeId) (n : Nat) (ps : Array (Nat × Value)) : Only T TT (Instr.buildSlice t n ps) := by
  unfold Instr.buildSlice
  refine Only.bind (only_underlying t) fun d _ => ?_
  split
  · rename_i elem _
    refine Only.bind (only_sizeOf _) fun sz _ => ?_
    have rest : ∀ zero : Array Value, Only T TT (do
        let some cells := Instr.fill (fun i => some (i * sz, sz)) ((Array.range (n * sz)).map (zero[· % zero.size]!)) ps.toList | stuck "buildSlice: a part of the wrong size"
        pure (Value.slice (some (← newRow elem cells)) n n) : Sem Value) := by
      intro zero
      split
      · exact Only.bind (only_newRow _ _) fun _ _ => trivial
      · trivial
    dsimp only
    split
    · exact trivial
    · split
      · exact rest #[]
      · exact Only.bind (only_zero _) fun z _ => rest _
  · trivial
end
end Go.Ab
namespace Go.Ab

section
variable {T : Nat → Prop}
theorem only_len (ts : Array TypeId) (t : TypeId) (args : Array Value) : Only T TT (Builtin.len_ ts t args) := by
  unfold Builtin.len_
  split
  · refine Only.bind (only_underlying _) fun d _ => ?_
    split <;> first
      | trivial
      | (refine Only.bind (only_underlying _) fun d _ => ?_
         split <;> trivial)
      | (refine Only.bind (A := TT) (show Only T TT (getObj _) from fun _ => trivial) fun d _ => ?_
         split <;> trivial)
  · trivial
theorem only_intCmp (op : BinOp) (x y : Int) : Only T TT (Op.intCmp op x y) := by
  unfold Op.intCmp
  split <;> trivial
theorem only_cmp {op : BinOp} (hop : op = .lss ∨ op = .leq ∨ op = .gtr ∨ op = .geq) (t : TypeId) (x : Value) (k : IntKind) (n : Int) : Only T TT (binOp op t x (.int k n)) := by
  rcases hop with rfl | rfl | rfl | rfl <;> cases x <;> simp only [binOp] <;> first
    | trivial
    | (split <;> first | trivial | exact only_intCmp _ _ _)
theorem only_goPanic {α : Type} (v : Value) : Only T TT (goPanic v : Sem α) := trivial
theorem only_boundsPanic {α : Type} (k : IntKind) (x y : Int) (c : BoundsCode) : Only T TT (boundsPanic k x y c : Sem α) := by
  have hj : ∀ s : Bool, Only T TT (runtimePanic (.bounds (IntKind.i64.wrap x) y s c) : Sem α) := fun s => by
    unfold runtimePanic
    exact Only.bind only_program fun p _ => trivial
  unfold boundsPanic
  dsimp only
  split
  · refine Only.bind (A := TT) (fun n => trivial) fun s _ => hj s
  · exact Only.bind (A := TT) trivial fun s _ => hj s
theorem only_asIntOf (v : Value) : Only T TT (asIntOf v) := by
  unfold asIntOf
  split <;> trivial
theorem Only.ite' {α : Type} {A : α → Prop} {c : Prop} [Decidable c] {s t : Sem α} (h1 : Only T A s) (h2 : Only T A t) : Only T A (if c then s else t) := by
  split
  · exact h1
  · exact h2
theorem only_indexAt (t : TypeId) (x ix : Value) : Only T TT (Instr.indexAt t x ix) := by
  unfold Instr.indexAt
  refine Only.bind (only_asIntOf ix) fun q _ => ?_
  refine Only.bind (only_underlying t) fun u _ => ?_
  dsimp only
  split
  · refine Only.bind (only_sureAddr _) fun ad _ => Only.bind (A := TT) trivial fun z _ => ?_
    refine Only.bind (only_underlying t) fun u' _ => ?_
    split
    · split
      · exact Only.bind (only_sizeOf _) fun _ _ => trivial
      · exact Only.ite' trivial (only_boundsPanic _ _ _ _)
    · exact only_boundsPanic _ _ _ _
  · refine Only.bind (A := TT) trivial fun z _ => ?_
    refine Only.bind (only_underlying t) fun u' _ => ?_
    split
    · split
      · exact Only.bind (only_sizeOf _) fun _ _ => trivial
      · exact Only.ite' trivial (only_boundsPanic _ _ _ _)
    · exact only_boundsPanic _ _ _ _
  · trivial
theorem only_eq0 {t : TypeId} {x : Value} {k : IntKind} {n : Int} (d : Nat) : Only T TT (Op.equalIn (d + 1) t x (.int k n)) := by
  unfold Op.equalIn
  refine Only.bind (only_underlying t) fun u _ => ?_
  cases u <;> cases x <;> first
    | trivial
    | (dsimp only; split <;> trivial)
    | (rename_i q; cases q <;> (dsimp only; split <;> trivial))
    | (rename_i q; cases q <;> trivial)
theorem only_eqk {op : BinOp} (hop : op = .eql ∨ op = .neq) (t : TypeId) (x : Value) (k : IntKind) (n : Int) : Only T TT (binOp op t x (.int k n)) := by
  have he : ∀ x, Only T TT (Op.equal t x (.int k n)) := fun x => only_eq0 9999
  rcases hop with rfl | rfl <;> cases x <;> simp only [binOp] <;> first
    | exact Only.bind (he _) fun _ _ => trivial
    | (split <;> first | trivial | exact only_intCmp _ _ _)
theorem only_eqGuard {op : BinOp} (t : TypeId) (x y : Operand) (v : Value) (k : IntKind) (n : Int) : Only T TT (eqGuard op t x y v (.int k n)) := by
  have h : ∀ c : Bool, Only T TT (if (!c) = true then pure () else (pure () : Sem Unit)) := fun c => by cases c <;> trivial
  unfold eqGuard
  cases v <;> exact h _
theorem only_noView (a : Addr) : Only T TT (noView a) := by
  unfold noView
  refine Only.bind (A := TT) ?_ fun o _ => Only.ite' trivial trivial
  unfold viewAt
  refine Only.bind (A := TT) (show Only T TT (shape _) from fun _ => trivial) fun d _ => Only.ite' trivial ?_
  refine Only.bind (A := TT) (show Only T TT (getObj _) from fun _ => trivial) fun d _ => ?_
  split <;> trivial
theorem only_byteOf (a : Addr) : Only T TT (byteOf a) := by
  unfold byteOf
  dsimp only
  split
  · trivial
  · refine Only.bind only_program fun p _ => Only.bind (only_noView a) fun _ _ => ?_
    refine Only.bind (A := TT) (show Only T TT (shape _) from fun _ => trivial) fun d _ => ?_
    split
    · exact Only.ite' trivial (by split <;> trivial)
    · trivial
theorem only_fieldPlace (a : Addr) (f : Field) : Only T TT (fieldPlace a f) := by
  unfold fieldPlace
  refine Only.bind (only_sizeOf _) fun n _ => Only.ite' ?_ trivial
  unfold partAt
  exact Only.bind (only_byteOf _) fun b _ => Only.bind (only_byteOf _) fun b' _ => trivial
theorem only_fieldAt (t : TypeId) (x : Value) (f : Nat) : Only T TT (Instr.fieldAt t x f) := by
  unfold Instr.fieldAt
  refine Only.bind (only_underlying t) fun u _ => ?_
  split
  · split
    · exact Only.bind (only_sureAddr _) fun ad _ => Only.bind (only_fieldPlace _ _) fun _ _ => trivial
    · trivial
  · trivial
theorem only_leaves {o : Oper} (h : leaves o.op = true) (a : Act) : Only T Tame (execOp a.eval o) := by
  obtain ⟨dst, op, ty, pos, after, guard⟩ := o
  cases op <;> simp only [leaves, Bool.false_eq_true] at h <;> simp only [execOp]
  case move x => exact .inl ⟨_, rfl⟩
  case assign x => exact .inl ⟨_, rfl⟩
  case load t x => exact only_v (only_loadAt _ _)
  case alloc t => exact only_v (only_alloc _)
  case box t x => exact only_v (only_box _ _)
  case indexAddr t x i => exact only_v (only_indexAt _ _ _)
  case fieldAddr t x i => exact only_v (only_fieldAt _ _ _)
  case buildSlice t n ps => exact only_v (only_buildSlice _ _ _)
  case binOp op t x y _ =>
    simp only [Bool.and_eq_true] at h
    have hop : (op = .lss ∨ op = .leq ∨ op = .gtr ∨ op = .geq) ∨ (op = .eql ∨ op = .neq) := by
      have := h.1
      cases op <;> simp [cmpOp] at this ⊢
    obtain ⟨k, n, rfl⟩ : ∃ k n, y = .const (.int k n) := by
      have := h.2
      unfold constInt at this
      split at this
      · exact ⟨_, _, rfl⟩
      · cases this
    refine only_v (Only.bind (A := TT) (only_eqGuard _ _ _ _ _ _) fun _ _ => ?_)
    rcases hop with hop | hop
    · exact only_cmp hop _ _ _ _
    · exact only_eqk hop _ _ _ _
  case call c =>
    cases hc : c.callee <;> simp only [hc, Bool.false_eq_true] at h
    rename_i b
    cases b <;> simp only [Bool.false_eq_true] at h
    simp only [resolve, hc]
    exact only_v (only_len _ _ _)

def Local {α : Type} (g : Nat) : Sem α → Prop
  | .pure _ => True
  | .load _ a k => a.block = g ∧ ∀ v, Local g (k v)
  | .program k => ∀ p, Local g (k p)
  | .halt _ => True
  | _ => False
theorem Local.bind {α β : Type} {g : Nat} {f : α → Sem β} : ∀ {s : Sem α}, Local g s → (∀ a, Local g (f a)) → Local g (s >>= f)
  | .pure a, _, k => k a
  | .load _ _ q, h, k => ⟨h.1, fun v => Local.bind (s := q v) (h.2 v) k⟩
  | .store _ _ _ _, h, _ => h.elim
  | .new _ _, h, _ => h.elim
  | .shape _ _, h, _ => h.elim
  | .freeze _ _ _, h, _ => h.elim
  | .frozen _ _, h, _ => h.elim
  | .getObj _ _, h, _ => h.elim
  | .setObj _ _ _, h, _ => h.elim
  | .choose _ _, h, _ => h.elim
  | .sys _ _, h, _ => h.elim
  | .program q, h, k => fun v => Local.bind (s := q v) (h v) k
  | .mark _ _, h, _ => h.elim
  | .halt _, _, _ => trivial
theorem Local.run {α : Type} {g : Nat} {P : Program} {us : Array Value} {t : TypeId} {m : Nat × Nat} : ∀ {s : Sem α} {w w1 w' : World} {x : α}, Local g s → w.heap[g]? = some (.cells us t m) → w'.heap[g]? = some (.cells us t m) →
    s.run P w = .ok x w1 → s.run P w' = .ok x w'
  | .pure a, w, w1, w', x, h, h1, h2, e => by
    simp only [Sem.run, Result.ok.injEq] at e ⊢
    exact ⟨e.1, trivial⟩
  | .load q ad k, w, w1, w', x, h, h1, h2, e => by
    have hb := h.1
    simp only [Sem.run] at e ⊢
    rw [← World.cell?_of_block (w := w') (w' := w) (a := ad) (by rw [hb, h1, h2])]
    cases hc : w.cell? ad with
    | some v =>
      rw [hc] at e
      exact Local.run (h.2 v) h1 h2 e
    | none =>
      rw [hc] at e
      simp only [World.farLoad, hb, h1] at e
      cases e
  | .program q, w, w1, w', x, h, h1, h2, e => Local.run (s := q P) (h P) h1 h2 e
  | .halt _, _, _, _, _, _, _, _, e => by simp [Sem.run] at e
  | .store _ _ _ _, _, _, _, _, h, _, _, _ => h.elim
  | .new _ _, _, _, _, _, h, _, _, _ => h.elim
  | .shape _ _, _, _, _, _, h, _, _, _ => h.elim
  | .freeze _ _ _, _, _, _, _, h, _, _, _ => h.elim
  | .frozen _ _, _, _, _, _, h, _, _, _ => h.elim
  | .getObj _ _, _, _, _, _, h, _, _, _ => h.elim
  | .setObj _ _ _, _, _, _, _, h, _, _, _ => h.elim
  | .choose _ _, _, _, _, _, h, _, _, _ => h.elim
  | .sys _ _, _, _, _, _, h, _, _, _ => h.elim
  | .mark _ _, _, _, _, _, h, _, _, _ => h.elim
theorem local_isAgg {g : Nat} (t : TypeId) : Local g (isAgg t) := by
  unfold isAgg underlying
  refine Local.bind (Local.bind (fun _ => trivial) fun p => ?_) fun d => ?_
  · split <;> trivial
  · split <;> trivial
theorem local_sizeOf {g : Nat} (t : TypeId) : Local g (sizeOf t) := by
  unfold sizeOf typeInfo
  refine Local.bind (Local.bind (fun _ => trivial) fun p => ?_) fun d => trivial
  split <;> trivial
theorem add_block (ad : Addr) (i : Nat) : (ad.add i).block = ad.block := by unfold Addr.add; split <;> rfl
theorem local_loadCells (ad : Addr) : ∀ (n i : Nat) (acc : Array Value), Local ad.block (loadCellsFrom ad i n acc)
  | 0, _, _ => trivial
  | n + 1, i, _ => Local.bind (show Local _ (load _) from ⟨add_block ad i, fun _ => trivial⟩) fun _ => local_loadCells ad n (i + 1) _
theorem local_loadAt (t : TypeId) (ad : Addr) : Local ad.block (Instr.loadAt t (.pointer (some ad))) := by
  show Local _ (loadVar t ad)
  unfold loadVar
  refine Local.bind (local_isAgg t) fun b => ?_
  split
  · exact Local.bind (local_sizeOf t) fun n => Local.bind (local_loadCells ad n 0 #[]) fun _ => trivial
  · exact ⟨rfl, fun _ => trivial⟩
end
end Go.Ab
