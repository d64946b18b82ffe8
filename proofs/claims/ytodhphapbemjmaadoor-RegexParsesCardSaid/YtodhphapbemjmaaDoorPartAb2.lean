/- append, in the abstract heap. -/
import Derived.Test.YtodhphapbemjmaaDoorPartAb1
namespace Go.Ab
open Go.Lib
section
variable {C : Cfg} {w w' : World} {fz fz' : Fz} {ρ ρ' : Rho} {Wr : Nat → Prop} {a : Act} {st : St}

theorem killLs_map (r : Nat) : ∀ ls : List L, killLs r ls = ls.map (killL r)
  | [] => by simp [killLs]
  | l :: ls => by simp [killLs, killLs_map r ls]
theorem killDs_map (r : Nat) : ∀ ds : List D, killDs r ds = ds.map (killD r)
  | [] => by simp [killDs]
  | d :: ds => by simp [killDs, killDs_map r ds]

/-- What is told stays told once the copies of one slice are forgotten, whatever that slice's value is from here on. -/
theorem rep_kill {P : Program} {r : Nat} (hc : ∀ g o v, fz g o → w.cell? ⟨g, o, none⟩ = some v → w'.cell? ⟨g, o, none⟩ = some v) (hf : ∀ g o, fz g o → fz' g o)
    (hρ : ∀ b, b ≠ r → ∀ v, ρ b = some v → ρ' b = some v) {v : Value} {l : L} (h : Rep P w fz ρ v l) : Rep P w' fz' ρ' v (killL r l) := by
  induction h with
  | int k n => exact .int k n
  | bool b => exact .bool b
  | str s => exact .str s
  | lst A n c t xs u ad h1 h2 h3 h4 h5 h6 h7 _ =>
    exact (Rep.lst A n c t xs u ad h1 h2 h3 h4 h5 h6 h7 : Rep P w fz ρ _ _).mono P hc hf (by simp [refsL])
  | row r' v h =>
    simp only [killL]
    split
    · exact .any _
    · exact .row r' v (hρ r' ‹_› v h)
  | nils t => exact .nils t
  | ptr b o ad h =>
    simp only [killL]
    split
    · exact .any _
    · exact .ptr b o ad (hρ b ‹_› _ h)
  | aptr b base n i ad h hi =>
    simp only [killL]
    split
    · exact .any _
    · exact .aptr b base n i ad (hρ b ‹_› _ h) hi
  | eptr t e o u ad h1 h2 h3 h4 _ => exact (Rep.eptr t e o u ad h1 h2 h3 h4 : Rep P w fz ρ _ _).mono P hc hf (by simp [refsL])
  | rptr r' t i o ad n c h hi =>
    simp only [killL]
    split
    · exact .any _
    · exact .rptr r' t i o ad n c (hρ r' ‹_› _ h) hi
  | nilp => exact .nilp
  | nilf => exact .nilf
  | clo f vs cs h1 _ ih =>
    simp only [killL, killLs_map]
    refine .clo f vs _ (by simpa using h1) fun i l hl => ?_
    simp only [List.getElem?_map, Option.map_eq_some_iff] at hl
    obtain ⟨l0, h3, rfl⟩ := hl
    exact ih i l0 h3
  | any v => exact .any v

theorem repLs_map {r r' : Value → L → Prop} {f : L → L} (hf : ∀ v l, r v l → r' v (f l)) : ∀ {vs : List Value} {ls : List L}, RepLs r vs ls → RepLs r' vs (ls.map f)
  | [], [], _ => trivial
  | _ :: _, _ :: _, h => ⟨hf _ _ h.1, repLs_map hf h.2⟩
mutual
theorem repD_kill {r r' : Value → L → Prop} {k : Nat} (hf : ∀ v l, r v l → r' v (killL k l)) : ∀ {v : Value} {d : D}, RepD r v d → RepD r' v (killD k d)
  | v, .lf l, h => by simp only [RepD, killD] at h ⊢; exact hf v l h
  | v, .agg ls, h => by
    simp only [RepD, killD] at h ⊢
    obtain ⟨cs, e, h⟩ := h
    exact ⟨cs, e, by rw [killLs_map]; exact repLs_map hf h⟩
  | v, .tup ds, h => by
    simp only [RepD, killD] at h ⊢
    obtain ⟨vs, e, h⟩ := h
    exact ⟨vs, e, repDs_kill hf h⟩
theorem repDs_kill {r r' : Value → L → Prop} {k : Nat} (hf : ∀ v l, r v l → r' v (killL k l)) : ∀ {vs : List Value} {ds : List D}, RepDs r vs ds → RepDs r' vs (killDs k ds)
  | [], [], _ => by simp [RepDs, killDs]
  | v :: vs, d :: ds, h => by
    simp only [RepDs, killDs] at h ⊢
    exact ⟨repD_kill hf h.1, repDs_kill hf h.2⟩
  | [], _ :: _, h => by simp [RepDs] at h
  | _ :: _, [], h => by simp [RepDs] at h
end
theorem tyB_kill (r : Nat) : ∀ {ks : List K} {ls : List L}, TyB ks ls → TyB ks (ls.map (killL r))
  | [], [], _ => trivial
  | k :: _, l :: _, h => ⟨by
      have := h.1
      cases k <;> simp only [TyK] at this ⊢ <;> first | trivial | (obtain ⟨_, rfl⟩ := this; exact ⟨_, rfl⟩), tyB_kill r h.2⟩

theorem getD_map_kill (r : Nat) (hp : List B) (b : Nat) : (hp.map (killB r)).getD b .dead = killB r (hp.getD b .dead) := by
  simp only [List.getD, List.getElem?_map]
  cases hp[b]? <;> rfl
theorem killB_dead (r : Nat) (x : B) : killB r x = .dead ↔ x = .dead := by cases x <;> simp [killB]

/-- The abstract heap behind an append. -/
theorem HSim.app (H : HSim C.P w fz ρ Wr st.hp) {r : Nat} {v v' : Value} {us : List Value} {t : TypeId} {xs ys : List (List L)} {ex : Bool} {news : List Value}
    (hb : st.hp.getD r .dead = .row t xs ex) (hv : ρ r = some v) (hus : RepLs (Rep C.P w fz ρ) us xs.flatten) (hown : w.ownsRow 0 t (kinds C.P t).length v xs.length us)
    (A : App w w' v v' us) (hown' : w'.ownsRow 0 t (kinds C.P t).length v' (xs.length + ys.length) (us ++ news)) (hnews : RepLs (Rep C.P w fz ρ) news ys.flatten)
    (hconf : ∀ e ∈ ys, Conf C.P t e) (hw : ∀ k, w.heap.size ≤ k → Wr k) :
    ∃ fz', FzExt fz fz' Wr ∧ HSim C.P w' fz' (fun i => if i = r then some v' else ρ i) Wr ((st.hp.map (killB r)).set r (.row t (xs ++ ys) ex)) ∧
      (∀ g o v, fz g o → w.cell? ⟨g, o, none⟩ = some v → w'.cell? ⟨g, o, none⟩ = some v) ∧ (∀ k, k < w.heap.size → ¬ Wr k → w'.heap[k]? = w.heap[k]?) := by
  have hBr := H.blk r
  rw [hb] at hBr
  obtain ⟨v0, us0, h1, h2, h3, h4, h5, h6, h7, h8⟩ := hBr
  rw [hv] at h1; cases h1
  have hlive : st.hp.getD r .dead ≠ .dead := by rw [hb]; simp
  have hlt := live_lt hlive
  have hxl : xs.flatten.length = xs.length * (kinds C.P t).length := flatten_len fun e he => (h4 e he).length
  have husl : us.length = xs.length * (kinds C.P t).length := hown.1
  -- what is only read stays
  have hc : ∀ g o u, fz g o → w.cell? ⟨g, o, none⟩ = some u → w'.cell? ⟨g, o, none⟩ = some u := by
    intro g o u hz hcell
    by_cases e : bk v = some g
    · have ho := (h7 g o e hz).2
      obtain ⟨u2, hu2⟩ : ∃ u2, us[o]? = some u2 := ⟨us[o]'(by omega), List.getElem?_eq_getElem _⟩
      have h9 := hown.cells (g := g) (by rw [ownBlock_bk hown]; exact e) o u2 hu2
      rw [add_zero', hcell] at h9
      cases h9
      exact A.pre g o u e hu2
    · rw [World.cell?_of_block (w := w) (a := ⟨g, o, none⟩) (A.other g (H.lt g o hz) e)]
      exact hcell
  -- if the slice is frozen, its cells in their new place are frozen too
  let fz' : Fz := fun g o => fz g o ∨ (ex = false ∧ bk v' = some g ∧ o < (xs.length + ys.length) * (kinds C.P t).length)
  have hf : ∀ g o, fz g o → fz' g o := fun g o h => .inl h
  have hWr' : ∀ g, bk v' = some g → Wr g := by
    intro g hg
    rcases A.new with h | h
    · exact H.wr r v g hlive hv (h ▸ hg)
    · exact hw g (h g hg)
  have hρ : ∀ b, b ≠ r → ∀ u, ρ b = some u → (fun i => if i = r then some v' else ρ i) b = some u := fun b hb u hu => by simp [hb, hu]
  have hdist : ∀ b u g, b ≠ r → st.hp.getD b .dead ≠ .dead → ρ b = some u → bk u = some g → bk v' ≠ some g ∧ bk v ≠ some g ∧ g < w.heap.size := by
    intro b u g hne hd hu hg
    have hgl : g < w.heap.size := by
      have hbb := H.blk b
      cases hcb : st.hp.getD b .dead with
      | dead => exact absurd hcb hd
      | box ks cs =>
        rw [hcb] at hbb
        obtain ⟨g', us', t', e1, e2, _⟩ := hbb
        rw [e1] at hu; cases hu
        simp only [bk, Option.some.injEq] at hg; subst hg
        exact (Array.getElem?_eq_some_iff.1 e2).1
      | row t' xs' ex' =>
        rw [hcb] at hbb
        obtain ⟨v'', us', e1, e2, _⟩ := hbb
        rw [e1] at hu; cases hu
        exact (e2.lt g (by rw [ownBlock_bk e2]; exact hg)).2
      | iter s pos =>
        rw [hcb] at hbb
        obtain ⟨g', e1, e2, _⟩ := hbb
        rw [e1] at hu; cases hu
        simp only [bk, Option.some.injEq] at hg; subst hg
        exact (Array.getElem?_eq_some_iff.1 e2).1
    have hv2 : bk v ≠ some g := fun e => H.dis r b v u g (Ne.symm hne) hlive hd hv hu e hg
    refine ⟨fun e => ?_, hv2, hgl⟩
    rcases A.new with h | h
    · exact hv2 (h ▸ e)
    · have := h g e; omega
  have hgl : ∀ b, ((st.hp.map (killB r)).set r (.row t (xs ++ ys) ex)).getD b .dead = if b = r then .row t (xs ++ ys) ex else killB r (st.hp.getD b .dead) := by
    intro b
    rw [getD_set, getD_map_kill]
    by_cases e : b = r
    · subst e; simp [hlt]
    · have : ¬ (r = b ∧ r < (st.hp.map (killB r)).length) := fun h => e h.1.symm
      rw [if_neg this, if_neg e]
  have hl : ∀ b, b ≠ r → ((st.hp.map (killB r)).set r (.row t (xs ++ ys) ex)).getD b .dead ≠ .dead → st.hp.getD b .dead ≠ .dead := by
    intro b hne h
    rw [hgl, if_neg hne] at h
    exact fun e => h ((killB_dead r _).2 e)
  refine ⟨fz', ⟨hf, fun g o h => h.elim .inl fun h => .inr (hWr' g h.2.1)⟩, ⟨?_, ?_, ?_, ?_, ?_, ?_⟩, hc, ?_⟩
  · intro b u hu
    split at hu
    · cases hu
      rcases hown'.2 with ⟨rfl, _⟩ | ⟨_, _, _, rfl, _⟩ <;> rfl
    · exact H.one b u hu
  · intro b hb'
    simp at hb'
    rw [if_neg (by omega)]
    exact H.out b hb'
  · intro b
    rw [hgl]
    by_cases e : b = r
    · subst e
      rw [if_pos rfl]
      refine ⟨v', us ++ news, by simp, by rw [List.length_append]; exact hown', ?_, ?_, h5, h6, ?_, ?_⟩
      · rw [List.flatten_append]
        have m : ∀ (vs : List Value) (zs : List (List L)), (∀ e ∈ zs, Conf C.P t e) → RepLs (Rep C.P w fz ρ) vs zs.flatten → RepLs (Rep C.P w' fz' (fun i => if i = b then some v' else ρ i)) vs zs.flatten := by
          intro vs zs hz hh
          refine hh.mono fun u l hl hu => hu.mono C.P hc hf ?_
          obtain ⟨e, he, hle⟩ := List.mem_flatten.1 hl
          obtain ⟨kk, hk⟩ := HasKs.mem (hz e he) l hle
          simp [hk.refs]
        exact (m us xs h4 hus).append (m news ys hconf hnews)
      · intro e he
        rcases List.mem_append.1 he with h | h
        · exact h4 e h
        · exact hconf e h
      · intro g o hg ho
        rw [List.length_append]
        rcases ho with ho | ho
        · rcases A.new with h | h
          · have := h7 g o (h ▸ hg) ho
            have h10 : xs.length * (kinds C.P t).length ≤ (xs.length + ys.length) * (kinds C.P t).length := Nat.mul_le_mul_right _ (by omega)
            exact ⟨this.1, by omega⟩
          · have := h g hg
            have := H.lt g o ho
            omega
        · exact ⟨ho.1, ho.2.2⟩
      · intro he g o hg ho
        rw [List.length_append] at ho
        exact .inr ⟨he, hg, ho⟩
    · rw [if_neg e]
      by_cases hd : st.hp.getD b .dead = .dead
      · rw [hd]; trivial
      · have hbb := H.blk b
        cases hcb : st.hp.getD b .dead with
        | dead => exact absurd hcb hd
        | box ks cs =>
          rw [hcb] at hbb
          obtain ⟨g', us', t', e1, e2, e3, e4, e5⟩ := hbb
          obtain ⟨n1, n2, n3⟩ := hdist b _ g' e hd e1 rfl
          refine ⟨g', us', t', by simp [e, e1], by rw [A.other g' n3 n2]; exact e2, ?_, by rw [killLs_map]; exact tyB_kill r e4, fun o ho => ?_⟩
          · rw [killLs_map]
            exact repLs_map (fun u l hu => rep_kill hc hf hρ hu) e3
          · rcases ho with ho | ho
            · exact e5 o ho
            · exact n1 ho.2.1
        | row t' xs' ex' =>
          rw [hcb] at hbb
          refine BS.mono C.P (ρ' := fun i => if i = r then some v' else ρ i) hbb hc hf (hρ b e) (fun u g hu hg => ?_) (by simp [killB, refsB])
          obtain ⟨n1, n2, n3⟩ := hdist b u g e hd hu hg
          exact ⟨A.other g n3 n2, fun o ho => ho.elim id fun ho => absurd ho.2.1 n1⟩
        | iter s pos =>
          rw [hcb] at hbb
          refine BS.mono C.P (ρ' := fun i => if i = r then some v' else ρ i) hbb hc hf (hρ b e) (fun u g hu hg => ?_) (by simp [killB, refsB])
          obtain ⟨n1, n2, n3⟩ := hdist b u g e hd hu hg
          exact ⟨A.other g n3 n2, fun o ho => ho.elim id fun ho => absurd ho.2.1 n1⟩
  · intro b c v1 u1 g hne hb1 hc1 hv1 hu1 hg hg2
    by_cases e : b = r
    · have e2 : c ≠ r := fun e2 => hne (e.trans e2.symm)
      rw [if_pos e] at hv1
      rw [if_neg e2] at hu1
      cases hv1
      exact (hdist c u1 g e2 (hl c e2 hc1) hu1 hg2).1 hg
    · rw [if_neg e] at hv1
      by_cases e2 : c = r
      · rw [if_pos e2] at hu1
        cases hu1
        exact (hdist b v1 g e (hl b e hb1) hv1 hg).1 hg2
      · rw [if_neg e2] at hu1
        exact H.dis b c v1 u1 g hne (hl b e hb1) (hl c e2 hc1) hv1 hu1 hg hg2
  · intro b u g hb1 hu hg
    by_cases e : b = r
    · rw [if_pos e] at hu
      cases hu
      exact hWr' g hg
    · rw [if_neg e] at hu
      exact H.wr b u g (hl b e hb1) hu hg
  · intro g o h
    rcases h with h | h
    · exact Nat.lt_of_lt_of_le (H.lt g o h) A.size
    · exact (hown'.lt g (by rw [ownBlock_bk hown']; exact h.2.1)).2
  · intro k hk hn
    exact A.other k hk fun e => hn (H.wr r v k hlive hv e)

theorem strCells_rep {z : ByteArray} : RepLs (Rep C.P w fz ρ) (strCells z) (bytesOf z).flatten := by
  unfold strCells bytesOf
  generalize z.data.toList = l
  induction l with
  | nil => exact trivial
  | cons b l ih => exact ⟨.int _ _, ih⟩
theorem bytesOf_len {z : ByteArray} : (bytesOf z).length = z.size := by
  unfold bytesOf
  rw [List.length_map, Array.length_toList]
  rfl
theorem strT_under {P : Program} {t : TypeId} (h : strT P t = true) : P.underlying t = some .string := by
  unfold strT at h
  split at h
  · assumption
  · cases h

/-- Whatever is appended to a slice of the call's own. -/
theorem app_any (S : Sim C.P w fz ρ Wr a st) {t t' e : TypeId} {x : Operand} {ys : List (List L)} {v : Value} {n : Nat} {us : List Value} {ty : TypeId} (he : elemT C t = some e)
    (hsrc : srcOf C e st.hp (st.leaf x) = some (e, ys)) (hsz : sizeT C.P e = (kinds C.P e).length) (h0 : 0 < sizeT C.P e) (hzero : (zeroOf C.P e).isSome) (hfit : srcFits C t t' e (st.leaf x) = true)
    (hown : w.ownsRow 0 e (kinds C.P e).length v n us) (hroom : roomy C (n + ys.length) e = true) :
    ∃ v' w' news, (Builtin.append_ #[t, t'] ty #[v, a.eval x]).run C.P w = .ok v' w' ∧ w'.ownsRow 0 e (kinds C.P e).length v' (n + ys.length) (us ++ news) ∧ App w w' v v' us ∧
      RepLs (Rep C.P w fz ρ) news ys.flatten ∧ (∀ y ∈ ys, Conf C.P e y) := by
  have hu := elemT_under he
  obtain ⟨zl, hzl⟩ := Option.isSome_iff_exists.1 hzero
  obtain ⟨i, z, hi, hiz, hzr, hzt⟩ := zeroOf_sound (w := w) (fz := fz) (ρ := ρ) hzl
  have hisz : i.size = (kinds C.P e).length := by rw [← hsz]; simp [sizeT, hi]
  have hbt : i.bytes = bytesT C.P e := by simp [bytesT, hi]
  have hzs : z.cells.size = (kinds C.P e).length := by
    have := hzr.length
    rw [hzt.length] at this
    simpa using this
  simp only [roomy, Bool.and_eq_true, leI_eq, ltI_eq, decide_eq_true_eq] at hroom
  obtain ⟨hb, hm⟩ := hroom
  have hx := S.leaf x
  -- nothing to append
  have none_ : ∀ (A : Option Addr) (c : Nat), t' = t → a.eval x = .slice A 0 c → ys = [] → ∃ v' w' news, (Builtin.append_ #[t, t'] ty #[v, a.eval x]).run C.P w = .ok v' w' ∧ w'.ownsRow 0 e (kinds C.P e).length v' (n + ys.length) (us ++ news) ∧ App w w' v v' us ∧
      RepLs (Rep C.P w fz ρ) news ys.flatten ∧ (∀ y ∈ ys, Conf C.P e y) := by
    intro A c ht hv hy
    subst hy
    subst ht
    rw [hv]
    exact ⟨v, w, [], run_append_zero hu hi hown ⟨e, hu⟩, by simpa using hown, .refl hown, trivial, by simp⟩
  unfold srcOf at hsrc
  split at hsrc
  · -- a string
    rename_i s hs
    split at hsrc
    case isFalse => cases hsrc
    rename_i hk
    simp only [Option.some.injEq, Prod.mk.injEq, true_and] at hsrc
    subst hsrc
    rw [hs] at hx hfit
    simp only [srcFits, Bool.and_eq_true] at hfit
    have hu' := strT_under hfit.1
    have h8 := hfit.2
    unfold zeroU8 at h8
    simp only [hi, hiz] at h8
    split at h8
    · rename_i nn hzv
      simp only [Option.some.injEq] at hzv
      subst hzv
      simp only [Bool.and_eq_true, beq_iff_eq] at h8
      obtain ⟨⟨h9, h10⟩, h11⟩ := h8
      subst h9
      have hk1 : (kinds C.P e).length = 1 := by rw [hk]; rfl
      rw [hk1] at hown ⊢
      rw [bytesOf_len] at hb hm ⊢
      obtain ⟨v', w', hr, ho, hA⟩ := app_str (P := C.P) (ty := ty) hu hu' hi hiz h10 h11 hown (s := s) hm (by rw [← hbt, h11] at hb; omega)
      rw [rep_str hx]
      refine ⟨v', w', strCells s, hr, ho, hA, strCells_rep, fun y hy => ?_⟩
      unfold bytesOf at hy
      obtain ⟨b, _, rfl⟩ := List.mem_map.1 hy
      unfold Conf
      rw [hk]
      exact ⟨⟨_, rfl⟩, trivial⟩
    · cases h8
  · -- nil
    rename_i tn hs
    simp only [Option.some.injEq, Prod.mk.injEq, true_and] at hsrc
    rw [hs] at hx hfit
    simp only [srcFits, beq_iff_eq] at hfit
    generalize hv : a.eval x = vx at hx
    cases hx
    rw [← hv]
    exact none_ none 0 hfit hv hsrc.symm
  · -- a slice
    rename_i te xs hs
    simp only [Option.some.injEq, Prod.mk.injEq] at hsrc
    obtain ⟨rfl, rfl⟩ := hsrc
    rw [hs] at hfit
    simp only [srcFits, beq_iff_eq] at hfit
    obtain ⟨⟨A, c, hva⟩, hconf, vs, hvs, hcell⟩ := cont_rep S (by rw [hs]; rfl : cont st.hp (st.leaf x) = some (te, xs)) hx
    by_cases hne : xs = []
    · subst hne; exact none_ A c hfit hva rfl
    · have hxl : xs.flatten.length = xs.length * (kinds C.P te).length := flatten_len fun y hy => (hconf y hy).length
      have hfne : xs.flatten ≠ [] := by
        intro e
        have h1 : 0 < xs.length := List.length_pos_iff.2 hne
        have := congrArg List.length e
        rw [hxl] at this
        have h2 : 0 < xs.length * (kinds C.P te).length := Nat.mul_pos h1 (by omega)
        simp at this
        omega
      obtain ⟨ad, n', c', hv2, hc2⟩ := hcell hfne
      rw [hva] at hv2
      cases hv2
      subst hfit
      obtain ⟨v', w', hr, ho, hA⟩ := app_slice (P := C.P) (ty := ty) (c := c) hu hi hiz hisz hzs (by omega) hown (by rw [hvs.length, hxl]) (hc2 w fun _ _ => rfl)
        (repLs_one S.hp.one hvs fun l hl => by
          obtain ⟨y, hy, hly⟩ := List.mem_flatten.1 hl
          obtain ⟨kk, hk⟩ := HasKs.mem (hconf y hy) l hly
          rintro rfl
          cases kk <;> simp [HasK] at hk) hm (by rw [hbt]; exact hb)
      rw [hva]
      exact ⟨v', w', vs, hr, ho, hA, hvs, hconf⟩
  · -- a slice of the call's own
    rename_i r hs
    rw [hs] at hfit
    simp only [srcFits, beq_iff_eq] at hfit
    obtain ⟨⟨A, c, hva⟩, hconf, vs, hvs, hcell⟩ := cont_rep S (by rw [hs]; exact hsrc : cont st.hp (st.leaf x) = some (e, ys)) hx
    by_cases hne : ys = []
    · subst hne; exact none_ A c hfit hva rfl
    · have hxl : ys.flatten.length = ys.length * (kinds C.P e).length := flatten_len fun y hy => (hconf y hy).length
      have hfne : ys.flatten ≠ [] := by
        intro e'
        have h1 : 0 < ys.length := List.length_pos_iff.2 hne
        have := congrArg List.length e'
        rw [hxl] at this
        have h2 : 0 < ys.length * (kinds C.P e).length := Nat.mul_pos h1 (by omega)
        simp at this
        omega
      obtain ⟨ad, n', c', hv2, hc2⟩ := hcell hfne
      rw [hva] at hv2
      cases hv2
      subst hfit
      obtain ⟨v', w', hr, ho, hA⟩ := app_slice (P := C.P) (ty := ty) (c := c) hu hi hiz hisz hzs (by omega) hown (by rw [hvs.length, hxl]) (hc2 w fun _ _ => rfl)
        (repLs_one S.hp.one hvs fun l hl => by
          obtain ⟨y, hy, hly⟩ := List.mem_flatten.1 hl
          obtain ⟨kk, hk⟩ := HasKs.mem (hconf y hy) l hly
          rintro rfl
          cases kk <;> simp [HasK] at hk) hm (by rw [hbt]; exact hb)
      rw [hva]
      exact ⟨v', w', vs, hr, ho, hA, hvs, hconf⟩
  · cases hsrc

theorem append_ok (S : Sim C.P w fz ρ Wr a st) (hw : ∀ k, w.heap.size ≤ k → Wr k) {o : Oper} {κ : D → St → R} {r : List L} {c : Call} {s x : Operand}
    (hop : o.op = .call c) (hcal : c.callee = .builtin .append) (hargs : c.args = #[s, x]) (h : appendA C c.argTypes.toList (st.leaf s) (st.leaf x) st κ = some r) : OpOk C w fz ρ Wr a o κ r := by
  unfold appendA at h
  split at h
  case h_2 => cases h
  rename_i t t' hts
  have hat : c.argTypes = #[t, t'] := by rw [← Array.toArray_toList (xs := c.argTypes), hts]
  split at h
  · cases h
  rename_i e he
  split at h
  · cases h
  rename_i e' ys hsrc
  split at h
  case isFalse => cases h
  rename_i hc
  obtain ⟨rfl, hsz, h0, hzero, hfit⟩ := hc
  have run : ∀ (v v' : Value) (W : World), a.eval s = v → (Builtin.append_ #[t, t'] o.type #[v, a.eval x]).run C.P w = .ok v' W → (execOp a.eval o).run C.P w = .ok (.value v') W := by
    intro v v' W hv hr
    simp only [execOp, hop, resolve, hcal, invoke, builtin, Sem.run_bind, Sem.run_pure, Result.andThen_ok, hat, hargs, List.map_toArray, List.map_cons, List.map_nil, hv, hr]
  have hs := S.leaf s
  split at h
  · -- a slice of the call's own
    rename_i rr hl
    split at h
    · rename_i e'' xs ex hb
      split at h
      case isFalse => cases h
      rename_i he2
      subst he2
      have hg : roomy C (xs.length + ys.length) e'' = true := by
        cases hb : roomy C (xs.length + ys.length) e'' with
        | true => rfl
        | false => rw [hb] at h; cases h
      rw [hg] at h
      simp only [cond_true] at h
      rw [hl] at hs
      generalize hv : a.eval s = vs at hs
      cases hs with
      | row _ _ hρ =>
        have hB := S.hp.blk rr
        rw [hb] at hB
        obtain ⟨v0, us, h1, h2, h3, h4, h5, h6, h7, h8⟩ := hB
        rw [hρ] at h1; cases h1
        obtain ⟨v', w', news, hr, ho, hA, hnews, hconf⟩ := app_any S (ty := o.type) he hsrc hsz h0 hzero hfit h2 hg
        obtain ⟨fz', x1, H', hc', hblk⟩ := S.hp.app hb hρ h3 h2 hA ho hnews hconf hw
        refine ⟨_, _, v', w', fz', _, h, ?_, ⟨?_, H'⟩, ⟨hA.os, hA.tape, hA.output, hA.size, hblk, hc', x1⟩, (fun b p hp => by
          have : b ≠ rr := fun e => by
            rw [e, hρ] at hp
            cases hp
            rcases h2.2 with ⟨hh, _⟩ | ⟨_, _, _, hh, _⟩ <;> cases hh
          simp [this, hp]), .inl (run _ v' w' hv hr)⟩
        · show Rep _ _ _ _ _ _
          exact .row _ _ (by simp)
        · exact repDs_kill (fun u l hu => rep_kill hc' x1.1 (fun b hb u hu => by simp [hb, hu]) hu) S.tm
    · cases h
  · -- nil
    rename_i tn hl
    have hg : roomy C ys.length e' = true := by
      cases hb : roomy C ys.length e' with
      | true => rfl
      | false => rw [hb] at h; cases h
    rw [hg] at h
    simp only [cond_true] at h
    rw [hl] at hs
    generalize hv : a.eval s = vs at hs
    cases hs
    obtain ⟨v', w', news, hr, ho, hA, hnews, hconf⟩ := app_any S (ty := o.type) he hsrc hsz h0 hzero hfit (World.ownsRow_nil w 0 e' (kinds C.P e').length) (by simpa using hg)
    have hold : ∀ k, k < w.heap.size → w'.heap[k]? = w.heap[k]? := fun k hk => hA.other k hk (by simp [bk])
    simp only [Nat.zero_add, List.nil_append] at ho
    have hnew : ∀ g, bk v' = some g → w.heap.size ≤ g := by
      rcases hA.new with h | h
      · intro g hg; rw [h] at hg; cases hg
      · exact h
    refine ⟨_, _, v', w', fz, (fun i => if i = st.hp.length then some v' else ρ i), h, ?_, S.add hA.size hold ?_ (fun g hg => ⟨hnew g hg, hw g (hnew g hg)⟩) ⟨v', news, by simp, ho, ?_, hconf, by omega, hsz, fun g o hg ho => ?_, fun h => by cases h⟩, .of_old hA.os hA.tape hA.output hA.size hold S.hp.lt, .add S.hp _, .inl (run _ v' w' hv hr)⟩
    · show Rep _ _ _ _ _ _
      exact .row _ _ (by simp)
    · rcases ho.2 with ⟨rfl, _⟩ | ⟨_, _, _, rfl, _⟩ <;> rfl
    · exact hnews.mono fun v l _ h => rep_ext (C := C) (st := st) S.hp hold h
    · have := hnew g hg
      have := S.hp.lt g o ho
      omega
  · cases h

end
end Go.Ab
namespace Go.Ab
section
variable {C : Cfg} {w w' : World} {fz fz' : Fz} {ρ ρ' : Rho} {Wr : Nat → Prop} {a : Act} {st : St}

theorem next_ok {G : Req → R} (S : Sim C.P w fz ρ Wr a st) {o : Oper} {κ : D → St → R} {r : List L} {it : Operand} (hop : o.op = .next it true) (h : effA C G o st κ = some r) : OpOk C w fz ρ Wr a o κ r := by
  simp only [effA, hop] at h
  split at h
  case h_2 => cases h
  rename_i b e
  have hx := S.leaf it
  rw [e] at hx
  split at h
  case h_2 => cases h
  rename_i s pos hb
  have hB := S.hp.blk b
  rw [hb] at hB
  obtain ⟨g, h1, h2, h3⟩ := hB
  have hlive : st.hp.getD b .dead ≠ .dead := by rw [hb]; simp
  generalize hv : a.eval it = vx at hx
  cases hx with
  | ptr _ _ ad h1' =>
    rw [h1] at h1'
    cases h1'
    have hv' : a.eval it = .pointer (some ⟨g, 0, none⟩) := by rw [hv]; rfl
    have hlt := (Array.getElem?_eq_some_iff.1 h2).1
    by_cases hp : pos < s.size
    · have hd : decide (pos < s.size) = true := by simp [hp]
      rw [hd] at h
      simp only [cond_true] at h
      let w1 : World := { w with heap := w.heap.setIfInBounds g (.stringIter s (pos + (Utf8.decode s pos).2)) }
      have hother : ∀ k, k ≠ g → w1.heap[k]? = w.heap[k]? := fun k hk => by
        show (w.heap.setIfInBounds g _)[k]? = _
        rw [Array.getElem?_setIfInBounds_ne (Ne.symm hk)]
      have hself : w1.heap[g]? = some (.stringIter s (pos + (Utf8.decode s pos).2)) := by
        show (w.heap.setIfInBounds g _)[g]? = _
        rw [Array.getElem?_setIfInBounds_self_of_lt hlt]
      have hc : ∀ g' o v, fz g' o → w.cell? ⟨g', o, none⟩ = some v → w1.cell? ⟨g', o, none⟩ = some v := by
        intro g' o v hz hcell
        have hne : g' ≠ g := fun e => h3 o (e ▸ hz)
        rw [World.cell?_of_block (w := w) (a := ⟨g', o, none⟩) (hother g' hne)]
        exact hcell
      refine ⟨_, _, .tuple #[.bool true, goInt pos, .int .i32 (Utf8.decode s pos).1], w1, fz, ρ, h, ?_, S.put hlive h1 rfl (by simp [w1]) hother hc ⟨g, h1, hself, h3⟩, ⟨rfl, rfl, rfl, by simp [w1], fun k _ hn => hother k fun e => hn (e ▸ S.hp.wr b _ g hlive h1 rfl), hc, .refl⟩, .refl ρ, .inl ?_⟩
      · exact ⟨_, rfl, .bool _, .int _ _, .int _ _, trivial⟩
      · simp [execOp, hop, hv', Instr.next, getObj, setObj, Sem.run, h2, hp, w1]
    · have hd : decide (pos < s.size) = false := by simp [hp]
      rw [hd] at h
      simp only [cond_false] at h
      refine ⟨_, _, .tuple #[.bool false], w, fz, ρ, h, ⟨_, rfl, .bool _, trivial⟩, S, .refl _ _ _, .refl ρ, .inl ?_⟩
      simp [execOp, hop, hv', Instr.next, getObj, Sem.run, h2, hp]

end
end Go.Ab
namespace Go.Ab

theorem renLs_map (f : Nat → Nat) : ∀ ls : List L, renLs f ls = ls.map (renL f)
  | [] => by simp [renLs]
  | l :: ls => by simp [renLs, renLs_map f ls]
theorem renLs_get (f : Nat → Nat) (ls : List L) (i : Nat) (l : L) (h : ls[i]? = some l) : (renLs f ls)[i]? = some (renL f l) := by
  rw [renLs_map]; simp [h]

mutual
theorem rep_ren_aux (P : Program) (w : World) (fz : Fz) (ρ ρ' : Rho) (f : Nat → Nat) : ∀ (l : L) (v : Value), (∀ b ∈ refsL l, ρ' (f b) = ρ b) → (Rep P w fz ρ v l ↔ Rep P w fz ρ' v (renL f l))
  | .row r, v, h => by
    have e := h r (by simp [refsL])
    simp only [renL]
    constructor
    · intro x; cases x with | row _ _ hx => exact .row _ _ (e ▸ hx)
    · intro x; cases x with | row _ _ hx => exact .row _ _ (e ▸ hx)
  | .ptr b o, v, h => by
    have e := h b (by simp [refsL])
    simp only [renL]
    constructor
    · intro x; cases x with | ptr _ _ ad hx => exact .ptr _ _ ad (e ▸ hx)
    · intro x; cases x with | ptr _ _ ad hx => exact .ptr _ _ ad (e ▸ hx)
  | .aptr b c n i, v, h => by
    have e := h b (by simp [refsL])
    simp only [renL]
    constructor
    · intro x; cases x with | aptr _ _ _ _ ad hx hi => exact .aptr _ _ _ _ ad (e ▸ hx) hi
    · intro x; cases x with | aptr _ _ _ _ ad hx hi => exact .aptr _ _ _ _ ad (e ▸ hx) hi
  | .rptr r t i o, v, h => by
    have e := h r (by simp [refsL])
    simp only [renL]
    constructor
    · intro x; cases x with | rptr _ _ _ _ ad n c hx hi => exact .rptr _ _ _ _ ad n c (e ▸ hx) hi
    · intro x; cases x with | rptr _ _ _ _ ad n c hx hi => exact .rptr _ _ _ _ ad n c (e ▸ hx) hi
  | .clo g cs, v, h => by
    simp only [renL]
    have hh := rep_ren_auxs P w fz ρ ρ' f cs (by simpa [refsL] using h)
    constructor
    · intro x
      cases x with
      | clo _ vs _ h1 h2 =>
        refine .clo g vs _ (by rw [h1, hh.1]) fun i l hl => ?_
        obtain ⟨l0, h3, rfl⟩ := hh.2.1 i l hl
        exact (hh.2.2 i l0 h3 _).1 (h2 i l0 h3)
    · intro x
      cases x with
      | clo _ vs _ h1 h2 =>
        refine .clo g vs _ (by rw [h1, hh.1]) fun i l hl => ?_
        have h3 : (renLs f cs)[i]? = some (renL f l) := renLs_get f cs i l hl
        exact (hh.2.2 i l hl _).2 (h2 i _ h3)
  | .int k n, v, _ => ⟨fun x => by cases x; exact .int k n, fun x => by cases x; exact .int k n⟩
  | .bool b, v, _ => ⟨fun x => by cases x; exact .bool b, fun x => by cases x; exact .bool b⟩
  | .str s, v, _ => ⟨fun x => by cases x; exact .str s, fun x => by cases x; exact .str s⟩
  | .lst t xs, v, _ => ⟨fun x => x.mono P (fun _ _ _ _ h => h) (fun _ _ h => h) (by simp [refsL]), fun x => x.mono P (fun _ _ _ _ h => h) (fun _ _ h => h) (by simp [renL, refsL])⟩
  | .nils t, v, _ => ⟨fun x => by cases x; exact .nils t, fun x => by cases x; exact .nils t⟩
  | .eptr t e o, v, _ => ⟨fun x => x.mono P (fun _ _ _ _ h => h) (fun _ _ h => h) (by simp [refsL]), fun x => x.mono P (fun _ _ _ _ h => h) (fun _ _ h => h) (by simp [renL, refsL])⟩
  | .nilp, v, _ => ⟨fun x => by cases x; exact .nilp, fun x => by cases x; exact .nilp⟩
  | .nilf, v, _ => ⟨fun x => by cases x; exact .nilf, fun x => by cases x; exact .nilf⟩
  | .any, v, _ => ⟨fun _ => .any v, fun _ => .any v⟩
theorem rep_ren_auxs (P : Program) (w : World) (fz : Fz) (ρ ρ' : Rho) (f : Nat → Nat) : ∀ (ls : List L), (∀ b ∈ refsLs ls, ρ' (f b) = ρ b) →
    (renLs f ls).length = ls.length ∧ (∀ (i : Nat) l, (renLs f ls)[i]? = some l → ∃ l0, ls[i]? = some l0 ∧ l = renL f l0) ∧
    (∀ (i : Nat) l, ls[i]? = some l → ∀ v, (Rep P w fz ρ v l ↔ Rep P w fz ρ' v (renL f l)))
  | [], _ => by simp [renLs]
  | l :: ls, h => by
    have h1 := rep_ren_aux P w fz ρ ρ' f l
    have h2 := rep_ren_auxs P w fz ρ ρ' f ls (fun b hb => h b (by simp only [refsLs, List.mem_append]; exact .inr hb))
    refine ⟨by simp [renLs, h2.1], fun i x hx => ?_, fun i x hx v => ?_⟩
    · cases i with
      | zero => simp only [renLs, List.getElem?_cons_zero, Option.some.injEq] at hx; exact ⟨l, rfl, hx.symm⟩
      | succ i => simpa using h2.2.1 i x (by simpa [renLs] using hx)
    · cases i with
      | zero => simp only [List.getElem?_cons_zero, Option.some.injEq] at hx; subst hx; exact h1 v (fun b hb => h b (by simp only [refsLs, List.mem_append]; exact .inl hb))
      | succ i => exact h2.2.2 i x (by simpa using hx) v
end


section
variable {P : Program} {w w' : World} {fz fz' : Fz} {ρ ρ' : Rho} {Wr : Nat → Prop}

/-- A slice that is handed back as the caller's own. -/
def OwnS (P : Program) (w : World) (fz : Fz) (t : TypeId) (v : Value) (xs : List (List L)) : Prop :=
  ∃ us, w.ownsRow 0 t (kinds P t).length v xs.length us ∧ RepLs (Rep P w fz fun _ => none) us xs.flatten ∧ (∀ e ∈ xs, Conf P t e) ∧ 0 < (kinds P t).length ∧ sizeT P t = (kinds P t).length ∧
    ∀ g o, bk v = some g → ¬ fz g o

/-- Cells that are handed back; 'gs': the blocks of the slices that go over. -/
def Bk (P : Program) (w : World) (fz : Fz) (own : Bool) : List K → List Value → List L → List Nat → Prop
  | [], [], _, gs => gs = []
  | .sl t :: ks, u :: us, r, gs =>
    if own then ∃ xs gs', r.headD .any = .lst t xs ∧ OwnS P w fz t u xs ∧ gs = (bk u).toList ++ gs' ∧ Bk P w fz own ks us r.tail gs'
    else HasK (.sl t) (r.headD .any) ∧ Rep P w fz (fun _ => none) u (r.headD .any) ∧ Bk P w fz own ks us r.tail gs
  | .oth :: _, _ :: _, _, _ => False
  | k :: ks, u :: us, r, gs => HasK k (r.headD .any) ∧ Rep P w fz (fun _ => none) u (r.headD .any) ∧ Bk P w fz own ks us r.tail gs
  | _, _, _, _ => False

/-- The blocks that the heap's live slices and boxes lie in. -/
def Lives (ρ : Rho) (hp : List B) (g : Nat) : Prop := ∃ b u, hp.getD b .dead ≠ .dead ∧ ρ b = some u ∧ bk u = some g

theorem HSim.addSame {hp : List B} (H : HSim P w fz ρ Wr hp) {v : Value} {B : B} (h1 : v.oneCell' = true) (hb : ∀ g, bk v = some g → Wr g ∧ ¬ Lives ρ hp g)
    (hB : BS P w fz (fun i => if i = hp.length then some v else ρ i) hp.length B) :
    HSim P w fz (fun i => if i = hp.length then some v else ρ i) Wr (hp ++ [B]) ∧ ∀ g, Lives (fun i => if i = hp.length then some v else ρ i) (hp ++ [B]) g → Lives ρ hp g ∨ bk v = some g := by
  have hρ : ∀ b u, ρ b = some u → (fun i => if i = hp.length then some v else ρ i) b = some u := by
    intro b u hu
    have : b ≠ hp.length := fun e => by rw [H.out b (by omega)] at hu; cases hu
    simp [this, hu]
  have hlive : ∀ b, b ≠ hp.length → (hp ++ [B]).getD b .dead ≠ .dead → b < hp.length ∧ (hp ++ [B]).getD b .dead = hp.getD b .dead := by
    intro b hne h
    have := live_lt h
    simp at this
    have hb : b < hp.length := by omega
    exact ⟨hb, by simp [List.getD, List.getElem?_append_left hb]⟩
  have hlast : (hp ++ [B]).getD hp.length .dead = B := by simp [List.getD]
  refine ⟨⟨?_, ?_, ?_, ?_, ?_, H.lt⟩, ?_⟩
  · intro b u hu
    split at hu
    · cases hu; exact h1
    · exact H.one b u hu
  · intro b hb'
    simp at hb'
    rw [if_neg (by omega)]
    exact H.out b (by omega)
  · intro b
    by_cases e : b = hp.length
    · subst e; rw [hlast]; exact hB
    · by_cases hd : (hp ++ [B]).getD b .dead = .dead
      · rw [hd]; trivial
      · obtain ⟨h2, h3⟩ := hlive b e hd
        rw [h3]
        exact (H.blk b).mono P (fun _ _ _ _ h => h) (fun _ _ h => h) (hρ b) (fun u g hu hg => ⟨rfl, fun _ h => h⟩) (fun i _ u hu => hρ i u hu)
  · intro b c v1 u1 g hne hb1 hc1 hv1 hu1 hg hg2
    by_cases e : b = hp.length
    · have e2 : c ≠ hp.length := fun e2 => hne (e.trans e2.symm)
      rw [if_pos e] at hv1
      rw [if_neg e2] at hu1
      cases hv1
      obtain ⟨h2, h3⟩ := hlive c e2 hc1
      exact (hb g hg).2 ⟨c, u1, by rw [← h3]; exact hc1, hu1, hg2⟩
    · obtain ⟨h2, h3⟩ := hlive b e hb1
      rw [if_neg e] at hv1
      by_cases e2 : c = hp.length
      · rw [if_pos e2] at hu1
        cases hu1
        exact (hb g hg2).2 ⟨b, v1, by rw [← h3]; exact hb1, hv1, hg⟩
      · rw [if_neg e2] at hu1
        obtain ⟨h4, h5⟩ := hlive c e2 hc1
        exact H.dis b c v1 u1 g hne (by rw [← h3]; exact hb1) (by rw [← h5]; exact hc1) hv1 hu1 hg hg2
  · intro b u g hb1 hu hg
    by_cases e : b = hp.length
    · rw [if_pos e] at hu
      cases hu
      exact (hb g hg).1
    · rw [if_neg e] at hu
      obtain ⟨h2, h3⟩ := hlive b e hb1
      exact H.wr b u g (by rw [← h3]; exact hb1) hu hg
  · rintro g ⟨b, u, hb1, hu, hg⟩
    by_cases e : b = hp.length
    · simp only [if_pos e] at hu
      cases hu
      exact .inr hg
    · simp only [if_neg e] at hu
      obtain ⟨h2, h3⟩ := hlive b e hb1
      exact .inl ⟨b, u, by rw [← h3]; exact hb1, hu, hg⟩

/-- From a heap to one with more blocks. -/
structure Grow (P : Program) (w : World) (fz : Fz) (Wr : Nat → Prop) (ρ : Rho) (hp : List B) (ρ' : Rho) (hp' : List B) (gs : List Nat) : Prop where
  sim : HSim P w fz ρ' Wr hp'
  le : ∀ b v, ρ b = some v → ρ' b = some v
  pre : ∃ tl, hp' = hp ++ tl
  lives : ∀ g, Lives ρ' hp' g → Lives ρ hp g ∨ g ∈ gs
theorem Grow.refl {hp : List B} (H : HSim P w fz ρ Wr hp) : Grow P w fz Wr ρ hp ρ hp [] := ⟨H, fun _ _ h => h, ⟨[], by simp⟩, fun _ h => .inl h⟩
theorem Grow.trans {hp hp1 hp2 : List B} {ρ1 ρ2 : Rho} {g1 g2 : List Nat} (h : Grow P w fz Wr ρ hp ρ1 hp1 g1) (k : Grow P w fz Wr ρ1 hp1 ρ2 hp2 g2) : Grow P w fz Wr ρ hp ρ2 hp2 (g1 ++ g2) :=
  ⟨k.sim, fun b v x => k.le b v (h.le b v x), by
    obtain ⟨t1, e1⟩ := h.pre
    obtain ⟨t2, e2⟩ := k.pre
    exact ⟨t1 ++ t2, by rw [e2, e1, List.append_assoc]⟩, fun g x => by
    rcases k.lives g x with y | y
    · rcases h.lives g y with z | z
      · exact .inl z
      · exact .inr (List.mem_append.2 (.inl z))
    · exact .inr (List.mem_append.2 (.inr y))⟩

theorem grow_row {hp : List B} (H : HSim P w fz ρ Wr hp) {t : TypeId} {v : Value} {xs : List (List L)} (ho : OwnS P w fz t v xs) (hg : ∀ g, bk v = some g → Wr g ∧ ¬ Lives ρ hp g) :
    Grow P w fz Wr ρ hp (fun i => if i = hp.length then some v else ρ i) (hp ++ [.row t xs true]) (bk v).toList := by
  obtain ⟨us, h1, h2, h3, h4, h5, h6⟩ := ho
  have hA := H.addSame (v := v) (B := .row t xs true) (by rcases h1.2 with ⟨rfl, _⟩ | ⟨_, _, _, rfl, _⟩ <;> rfl) hg
    ⟨v, us, by simp, h1, h2.mono fun u l hl hu => by
      obtain ⟨e, he, hle⟩ := List.mem_flatten.1 hl
      obtain ⟨kk, hk⟩ := HasKs.mem (h3 e he) l hle
      exact hu.of_hasK P hk, h3, h4, h5, fun g o hg ho => absurd ho (h6 g o hg), fun h => by cases h⟩
  refine ⟨hA.1, fun b u hu => ?_, ⟨_, rfl⟩, fun g x => ?_⟩
  · have : b ≠ hp.length := fun e => by rw [H.out b (by omega)] at hu; cases hu
    simp [this, hu]
  · rcases hA.2 g x with y | y
    · exact .inl y
    · exact .inr (by simp [y])

theorem rep_le {v : Value} {l : L} (h : Rep P w fz ρ v l) (hle : ∀ b v, ρ b = some v → ρ' b = some v) : Rep P w fz ρ' v l :=
  h.mono P (fun _ _ _ _ h => h) (fun _ _ h => h) fun b _ v hv => hle b v hv

/-- Cells out of what a call has handed back. -/
theorem backLs_sound {own : Bool} : ∀ {ks : List K} {us : List Value} {r : List L} {gs : List Nat} {hp hp' : List B} {ls : List L} {ρ : Rho}, HSim P w fz ρ Wr hp → Bk P w fz own ks us r gs →
    backLs own ks r hp = some (ls, hp') → gs.Nodup → (∀ g ∈ gs, Wr g ∧ ¬ Lives ρ hp g) → ∃ ρ', Grow P w fz Wr ρ hp ρ' hp' gs ∧ RepLs (Rep P w fz ρ') us ls
  | [], [], r, gs, hp, hp', ls, ρ, H, hb, h, _, _ => by
    simp only [backLs, Option.some.injEq, Prod.mk.injEq] at h
    obtain ⟨rfl, rfl⟩ := h
    simp only [Bk] at hb
    subst hb
    exact ⟨ρ, .refl H, trivial⟩
  | [], _ :: _, _, _, _, _, _, _, _, hb, _, _, _ => by simp [Bk] at hb
  | k :: ks, [], _, _, _, _, _, _, _, hb, _, _, _ => by cases k <;> simp [Bk] at hb
  | k :: ks, u :: us, r, gs, hp, hp', ls, ρ, H, hb, h, hnd, hgs => by
    have scalar : (∀ t, k ≠ .sl t) → k ≠ .oth → ∃ ρ', Grow P w fz Wr ρ hp ρ' hp' gs ∧ RepLs (Rep P w fz ρ') (u :: us) ls := by
      intro k1 k2
      have hb' : HasK k (r.headD .any) ∧ Rep P w fz (fun _ => none) u (r.headD .any) ∧ Bk P w fz own ks us r.tail gs := by
        cases k <;> simp only [Bk] at hb <;> first | exact hb | exact absurd rfl (k1 _) | exact absurd rfl k2
      obtain ⟨b1, b2, b3⟩ := hb'
      have h' : ∃ ls1, backLs own ks r.tail hp = some (ls1, hp') ∧ ls = k.proj (r.headD .any) :: ls1 := by
        cases k <;> simp only [backLs] at h <;> first
          | exact absurd rfl (k1 _)
          | exact absurd rfl k2
          | (split at h
             · rename_i ls1 hp1 e1
               simp only [Option.some.injEq, Prod.mk.injEq] at h
               obtain ⟨rfl, rfl⟩ := h
               exact ⟨ls1, e1, rfl⟩
             · cases h)
      obtain ⟨ls1, e1, rfl⟩ := h'
      obtain ⟨ρ', g1, g2⟩ := backLs_sound H b3 e1 hnd hgs
      refine ⟨ρ', g1, ?_, g2⟩
      rw [b1.proj]
      exact b2.of_hasK P b1
    cases k with
    | int k => exact scalar (by simp) (by simp)
    | bool => exact scalar (by simp) (by simp)
    | str => exact scalar (by simp) (by simp)
    | oth => simp [Bk] at hb
    | sl t =>
      simp only [Bk] at hb
      simp only [backLs] at h
      cases own with
      | true =>
        simp only [if_true] at hb h
        obtain ⟨xs, gs', b1, b2, rfl, b3⟩ := hb
        rw [b1] at h
        simp only [L.toLst] at h
        split at h
        · rename_i ls1 hp1 e1
          simp only [Option.some.injEq, Prod.mk.injEq] at h
          obtain ⟨rfl, rfl⟩ := h
          have g0 := grow_row H b2 (fun g hg => hgs g (by simp [hg]))
          have hnd' := List.nodup_append.1 hnd
          obtain ⟨ρ', g1, g2⟩ := backLs_sound g0.sim b3 e1 hnd'.2.1 (fun g hg => ⟨(hgs g (by simp [hg])).1, fun hl => by
            rcases g0.lives g hl with y | y
            · exact (hgs g (by simp [hg])).2 y
            · exact hnd'.2.2 g y g hg rfl⟩)
          refine ⟨ρ', g0.trans g1, .row _ _ (g1.le _ _ (by simp)), g2⟩
        · cases h
      | false =>
        simp only [Bool.false_eq_true, if_false] at hb h
        obtain ⟨b1, b2, b3⟩ := hb
        split at h
        · rename_i ls1 hp1 e1
          simp only [Option.some.injEq, Prod.mk.injEq] at h
          obtain ⟨rfl, rfl⟩ := h
          obtain ⟨ρ', g1, g2⟩ := backLs_sound H b3 e1 hnd hgs
          refine ⟨ρ', g1, ?_, g2⟩
          have := b1.proj
          simp only [K.proj] at this
          rw [this]
          exact b2.of_hasK P b1
        · cases h

end
end Go.Ab
namespace Go.Ab
section
variable {C : Cfg} {w w' : World} {fz fz' : Fz} {ρ ρ' : Rho} {Wr : Nat → Prop}

/-- Values by their types, and their cells in one list. -/
def Vals (P : Program) : List TypeId → List Value → List Value → Prop
  | [], [], us => us = []
  | t :: ts, x :: xs, us => ∃ u1 u2, us = u1 ++ u2 ∧ u1.length = (kinds P t).length ∧ 0 < (kinds P t).length ∧ x = (if isAggT P t then .agg u1.toArray else u1.headD undef) ∧ Vals P ts xs u2
  | _, _, _ => False
def retV : List Value → Value
  | [v] => v
  | vs => .tuple vs.toArray

theorem Bk.split {own : Bool} : ∀ {ks ks' : List K} {us us' : List Value} {r : List L} {gs : List Nat}, us.length = ks.length → Bk C.P w fz own (ks ++ ks') (us ++ us') r gs →
    ∃ g1 g2, gs = g1 ++ g2 ∧ Bk C.P w fz own ks us r g1 ∧ Bk C.P w fz own ks' us' (r.drop ks.length) g2
  | [], ks', [], us', r, gs, _, h => ⟨[], gs, rfl, by simp [Bk], by simpa using h⟩
  | [], _, _ :: _, _, _, _, hl, _ => by simp at hl
  | _ :: _, _, [], _, _, _, hl, _ => by simp at hl
  | k :: ks, ks', u :: us, us', r, gs, hl, h => by
    have hl' : us.length = ks.length := by simpa using hl
    have hd : r.tail.drop ks.length = r.drop (ks.length + 1) := by cases r <;> simp
    cases k with
    | sl t =>
      simp only [List.cons_append, Bk] at h
      cases own with
      | true =>
        simp only [if_true] at h
        obtain ⟨xs, gs', a, b, rfl, c⟩ := h
        obtain ⟨g1, g2, rfl, d, e⟩ := Bk.split hl' c
        exact ⟨(bk u).toList ++ g1, g2, by simp, by simp only [Bk, if_true]; exact ⟨xs, g1, a, b, rfl, d⟩, by rw [List.length_cons, ← hd]; exact e⟩
      | false =>
        simp only [Bool.false_eq_true, if_false] at h
        obtain ⟨a, b, c⟩ := h
        obtain ⟨g1, g2, rfl, d, e⟩ := Bk.split hl' c
        exact ⟨g1, g2, rfl, by simp only [Bk, Bool.false_eq_true, if_false]; exact ⟨a, b, d⟩, by rw [List.length_cons, ← hd]; exact e⟩
    | oth => simp [Bk] at h
    | int k =>
      simp only [List.cons_append, Bk] at h
      obtain ⟨a, b, c⟩ := h
      obtain ⟨g1, g2, rfl, d, e⟩ := Bk.split hl' c
      exact ⟨g1, g2, rfl, by simp only [Bk]; exact ⟨a, b, d⟩, by rw [List.length_cons, ← hd]; exact e⟩
    | bool =>
      simp only [List.cons_append, Bk] at h
      obtain ⟨a, b, c⟩ := h
      obtain ⟨g1, g2, rfl, d, e⟩ := Bk.split hl' c
      exact ⟨g1, g2, rfl, by simp only [Bk]; exact ⟨a, b, d⟩, by rw [List.length_cons, ← hd]; exact e⟩
    | str =>
      simp only [List.cons_append, Bk] at h
      obtain ⟨a, b, c⟩ := h
      obtain ⟨g1, g2, rfl, d, e⟩ := Bk.split hl' c
      exact ⟨g1, g2, rfl, by simp only [Bk]; exact ⟨a, b, d⟩, by rw [List.length_cons, ← hd]; exact e⟩

theorem backD_sound {own : Bool} : ∀ {ts : List TypeId} {vals us : List Value} {r r' : List L} {gs : List Nat} {hp hp' : List B} {ds : List D} {ρ : Rho}, HSim C.P w fz ρ Wr hp →
    Vals C.P ts vals us → Bk C.P w fz own (ts.flatMap (kinds C.P)) us r gs → backD C own ts r hp = some (ds, r', hp') → gs.Nodup → (∀ g ∈ gs, Wr g ∧ ¬ Lives ρ hp g) →
    ∃ ρ', Grow C.P w fz Wr ρ hp ρ' hp' gs ∧ RepDs (Rep C.P w fz ρ') vals ds ∧ r' = r.drop (ts.flatMap (kinds C.P)).length
  | [], [], us, r, r', gs, hp, hp', ds, ρ, H, hv, hb, h, _, _ => by
    simp only [backD, Option.some.injEq, Prod.mk.injEq] at h
    obtain ⟨rfl, rfl, rfl⟩ := h
    simp only [Vals] at hv
    subst hv
    simp only [List.flatMap_nil, Bk] at hb
    subst hb
    exact ⟨ρ, .refl H, by simp [RepDs], by simp⟩
  | [], _ :: _, _, _, _, _, _, _, _, _, _, hv, _, _, _, _ => by simp [Vals] at hv
  | _ :: _, [], _, _, _, _, _, _, _, _, _, hv, _, _, _, _ => by simp [Vals] at hv
  | t :: ts, x :: vals, us, r, r', gs, hp, hp', ds, ρ, H, hv, hb, h, hnd, hgs => by
    obtain ⟨u1, u2, rfl, hl, h0, rfl, hv2⟩ := hv
    simp only [List.flatMap_cons] at hb
    obtain ⟨g1, g2, rfl, b1, b2⟩ := Bk.split (C := C) hl hb
    simp only [backD] at h
    split at h
    · cases h
    split at h
    · rename_i ls hp1 e1
      split at h
      · rename_i ds1 r1 hp2 e2
        simp only [Option.some.injEq, Prod.mk.injEq] at h
        obtain ⟨rfl, rfl, rfl⟩ := h
        have hnd' := List.nodup_append.1 hnd
        obtain ⟨ρ1, G1, R1⟩ := backLs_sound H b1 e1 hnd'.1 (fun g hg => hgs g (by simp [hg]))
        obtain ⟨ρ2, G2, R2, hr⟩ := backD_sound G1.sim hv2 b2 e2 hnd'.2.1 (fun g hg => ⟨(hgs g (by simp [hg])).1, fun hl => by
          rcases G1.lives g hl with y | y
          · exact (hgs g (by simp [hg])).2 y
          · exact hnd'.2.2 g y g hg rfl⟩)
        refine ⟨ρ2, G1.trans G2, ⟨?_, R2⟩, by rw [hr, List.drop_drop, List.flatMap_cons, List.length_append]⟩
        exact rep_mkD (by omega) (R1.mono fun v l _ hv => rep_le hv G2.le) (fun v => .any v)
      · cases h
    · cases h

/-- A box's cells, handed back. -/
def BkBox (P : Program) (w : World) (fz : Fz) (ρ : Rho) : List K → List L → List Value → List L → List Nat → Prop
  | [], _, [], _, gs => gs = []
  | .sl t :: ks, old, u :: us, r, gs => ∃ xs gs', r.headD .any = .lst t xs ∧ OwnS P w fz t u xs ∧ gs = (bk u).toList ++ gs' ∧ BkBox P w fz ρ ks old.tail us r.tail gs'
  | .oth :: ks, old, u :: us, r, gs => Rep P w fz ρ u (old.headD .any) ∧ BkBox P w fz ρ ks old.tail us r.tail gs
  | k :: ks, old, u :: us, r, gs => HasK k (r.headD .any) ∧ Rep P w fz (fun _ => none) u (r.headD .any) ∧ BkBox P w fz ρ ks old.tail us r.tail gs
  | _, _, _, _, _ => False

theorem hasK_tyK {k : K} {l : L} (h : HasK k l) : TyK k l := by cases k <;> simp_all [HasK, TyK]

theorem backBox_sound : ∀ {ks : List K} {old : List L} {us : List Value} {r : List L} {gs : List Nat} {hp : List B} {ρ : Rho}, HSim C.P w fz ρ Wr hp → BkBox C.P w fz ρ ks old us r gs →
    gs.Nodup → (∀ g ∈ gs, Wr g ∧ ¬ Lives ρ hp g) →
    ∃ ρ', Grow C.P w fz Wr ρ hp ρ' (backBox ks old r hp).2 gs ∧ RepLs (Rep C.P w fz ρ') us (backBox ks old r hp).1 ∧ TyB ks (backBox ks old r hp).1
  | [], old, [], r, gs, hp, ρ, H, hb, _, _ => by
    simp only [BkBox] at hb
    subst hb
    exact ⟨ρ, .refl H, trivial, trivial⟩
  | [], _, _ :: _, _, _, _, _, _, hb, _, _ => by simp [BkBox] at hb
  | k :: ks, _, [], _, _, _, _, _, hb, _, _ => by cases k <;> simp [BkBox] at hb
  | k :: ks, old, u :: us, r, gs, hp, ρ, H, hb, hnd, hgs => by
    have up : ∀ {old : List L} {us : List Value} {r : List L} {gs : List Nat} {ks : List K} {ρ1 : Rho}, (∀ b v, ρ b = some v → ρ1 b = some v) → BkBox C.P w fz ρ ks old us r gs → BkBox C.P w fz ρ1 ks old us r gs := by
      intro old us r gs ks ρ1 hle h
      induction ks generalizing old us r gs with
      | nil => cases us <;> simp_all [BkBox]
      | cons k ks ih =>
        cases us with
        | nil => cases k <;> simp [BkBox] at h
        | cons u us =>
          cases k <;> simp only [BkBox] at h ⊢
          case sl t =>
            obtain ⟨xs, gs', a, b, c, d⟩ := h
            exact ⟨xs, gs', a, b, c, ih d⟩
          case oth => exact ⟨rep_le h.1 hle, ih h.2⟩
          all_goals exact ⟨h.1, h.2.1, ih h.2.2⟩
    have scalar : (∀ t, k ≠ .sl t) → k ≠ .oth →
        ∃ ρ', Grow C.P w fz Wr ρ hp ρ' (backBox (k :: ks) old r hp).2 gs ∧ RepLs (Rep C.P w fz ρ') (u :: us) (backBox (k :: ks) old r hp).1 ∧ TyB (k :: ks) (backBox (k :: ks) old r hp).1 := by
      intro k1 k2
      have hb' : HasK k (r.headD .any) ∧ Rep C.P w fz (fun _ => none) u (r.headD .any) ∧ BkBox C.P w fz ρ ks old.tail us r.tail gs := by
        cases k <;> simp only [BkBox] at hb <;> first | exact hb | exact absurd rfl (k1 _) | exact absurd rfl k2
      obtain ⟨b1, b2, b3⟩ := hb'
      have e : backBox (k :: ks) old r hp = (k.proj (r.headD .any) :: (backBox ks old.tail r.tail hp).1, (backBox ks old.tail r.tail hp).2) := by
        cases k <;> first | rfl | exact absurd rfl (k1 _) | exact absurd rfl k2
      obtain ⟨ρ', g1, g2, g3⟩ := backBox_sound H b3 hnd hgs
      rw [e]
      refine ⟨ρ', g1, ⟨?_, g2⟩, ?_, g3⟩
      · rw [b1.proj]; exact b2.of_hasK C.P b1
      · rw [b1.proj]; exact hasK_tyK b1
    cases k with
    | int k => exact scalar (by simp) (by simp)
    | bool => exact scalar (by simp) (by simp)
    | str => exact scalar (by simp) (by simp)
    | oth =>
      simp only [BkBox] at hb
      obtain ⟨ρ', g1, g2, g3⟩ := backBox_sound H hb.2 hnd hgs
      exact ⟨ρ', g1, ⟨rep_le hb.1 g1.le, g2⟩, trivial, g3⟩
    | sl t =>
      simp only [BkBox] at hb
      obtain ⟨xs, gs', b1, b2, rfl, b3⟩ := hb
      have g0 := grow_row H b2 (fun g hg => hgs g (by simp [hg]))
      have hnd' := List.nodup_append.1 hnd
      obtain ⟨ρ', g1, g2, g3⟩ := backBox_sound g0.sim (up g0.le b3) hnd'.2.1 (fun g hg => ⟨(hgs g (by simp [hg])).1, fun hl => by
        rcases g0.lives g hl with y | y
        · exact (hgs g (by simp [hg])).2 y
        · exact hnd'.2.2 g y g hg rfl⟩)
      have e : backBox (.sl t :: ks) old r hp = ((.row hp.length) :: (backBox ks old.tail r.tail (hp ++ [.row t xs true])).1, (backBox ks old.tail r.tail (hp ++ [.row t xs true])).2) := by
        simp only [backBox, b1, L.toLst]
      rw [e]
      exact ⟨ρ', g0.trans g1, ⟨.row _ _ (g1.le _ _ (by simp)), g2⟩, trivial, g3⟩


/-- The boxes, as the caller has them. 'bg': their own blocks. -/
def BxC (P : Program) (w : World) (fz : Fz) (ρ : Rho) : List (Nat × B) → List L → List Nat → List Nat → Prop
  | [], _, gs, bg => gs = [] ∧ bg = []
  | (i, .box ks cs) :: bs, r, gs, bg => ∃ g us t g1 g2 bg', ρ i = some (.pointer (some ⟨g, 0, none⟩)) ∧ w.heap[g]? = some (.cells us t (0, 0)) ∧ (∀ o, ¬ fz g o) ∧
      BkBox P w fz ρ ks cs us.toList r g1 ∧ gs = g1 ++ g2 ∧ bg = g :: bg' ∧ BxC P w fz ρ bs (r.drop ks.length) g2 bg'
  | (_, .row _ _ _) :: bs, r, gs, bg => BxC P w fz ρ bs r gs bg
  | _, _, _, _ => False

theorem BkBox.le {ρ1 : Rho} (hle : ∀ b v, ρ b = some v → ρ1 b = some v) : ∀ {ks : List K} {old : List L} {us : List Value} {r : List L} {gs : List Nat}, BkBox C.P w fz ρ ks old us r gs → BkBox C.P w fz ρ1 ks old us r gs
  | [], _, [], _, _, h => by simpa [BkBox] using h
  | [], _, _ :: _, _, _, h => by simp [BkBox] at h
  | k :: _, _, [], _, _, h => by cases k <;> simp [BkBox] at h
  | k :: ks, old, u :: us, r, gs, h => by
    cases k <;> simp only [BkBox] at h ⊢
    case sl t =>
      obtain ⟨xs, gs', a, b, c, d⟩ := h
      exact ⟨xs, gs', a, b, c, BkBox.le hle d⟩
    case oth => exact ⟨rep_le h.1 hle, BkBox.le hle h.2⟩
    all_goals exact ⟨h.1, h.2.1, BkBox.le hle h.2.2⟩
theorem BxC.le {ρ1 : Rho} (hle : ∀ b v, ρ b = some v → ρ1 b = some v) : ∀ {bs : List (Nat × B)} {r : List L} {gs bg : List Nat}, BxC C.P w fz ρ bs r gs bg → BxC C.P w fz ρ1 bs r gs bg
  | [], _, _, _, h => h
  | (i, .box ks cs) :: bs, r, gs, bg, h => by
    simp only [BxC] at h ⊢
    obtain ⟨g, us, t, g1, g2, bg', a, b, c, d, e, f, k⟩ := h
    exact ⟨g, us, t, g1, g2, bg', hle _ _ a, b, c, BkBox.le hle d, e, f, BxC.le hle k⟩
  | (_, .row _ _ _) :: bs, r, gs, bg, h => by
    simp only [BxC] at h ⊢
    exact BxC.le hle h
  | (_, .iter _ _) :: _, _, _, _, h => by simp [BxC] at h
  | (_, .dead) :: _, _, _, _, h => by simp [BxC] at h

/-- A block that was out of sight comes back. -/
theorem HSim.revive {hp : List B} (H : HSim C.P w fz ρ Wr hp) {i : Nat} {v : Value} {g : Nat} {B : B} (hi : i < hp.length) (hd : hp.getD i .dead = .dead) (hv : ρ i = some v) (hg : bk v = some g)
    (hw : Wr g) (hl : ¬ Lives ρ hp g) (hB : BS C.P w fz ρ i B) : HSim C.P w fz ρ Wr (hp.set i B) ∧ ∀ g', Lives ρ (hp.set i B) g' → Lives ρ hp g' ∨ g' = g := by
  have hl2 : ∀ c, c ≠ i → (hp.set i B).getD c .dead = hp.getD c .dead := by
    intro c hc
    rw [getD_set, if_neg (fun e => hc e.1.symm)]
  refine ⟨⟨H.one, fun c h => H.out c (by simpa using h), fun c => ?_, fun c d v1 u1 g1 hne h1 h2 hv1 hu1 e1 e2 => ?_, fun c u g1 h1 hu hg1 => ?_, H.lt⟩, ?_⟩
  · rw [getD_set]
    split
    · rename_i e; rw [← e.1]; exact hB
    · exact H.blk c
  · by_cases a : c = i
    · have b : d ≠ i := fun b => hne (a.trans b.symm)
      rw [a, hv] at hv1; cases hv1
      rw [hg] at e1; cases e1
      exact hl ⟨d, u1, by rw [← hl2 d b]; exact h2, hu1, e2⟩
    · by_cases b : d = i
      · rw [b, hv] at hu1; cases hu1
        rw [hg] at e2; cases e2
        exact hl ⟨c, v1, by rw [← hl2 c a]; exact h1, hv1, e1⟩
      · exact H.dis c d v1 u1 g1 hne (by rw [← hl2 c a]; exact h1) (by rw [← hl2 d b]; exact h2) hv1 hu1 e1 e2
  · by_cases a : c = i
    · rw [a, hv] at hu; cases hu
      rw [hg] at hg1; cases hg1
      exact hw
    · exact H.wr c u g1 (by rw [← hl2 c a]; exact h1) hu hg1
  · rintro g' ⟨c, u, h1, hu, hg1⟩
    by_cases a : c = i
    · rw [a, hv] at hu; cases hu
      rw [hg] at hg1; cases hg1
      exact .inr rfl
    · exact .inl ⟨c, u, by rw [← hl2 c a]; exact h1, hu, hg1⟩

theorem backBoxes_sound : ∀ {bs : List (Nat × B)} {r : List L} {gs bg : List Nat} {hp hp' : List B} {ρ : Rho}, HSim C.P w fz ρ Wr hp → BxC C.P w fz ρ bs r gs bg → backBoxes r bs hp = some hp' →
    (bg ++ gs).Nodup → (∀ g ∈ bg ++ gs, Wr g ∧ ¬ Lives ρ hp g) → (∀ p ∈ bs, p.1 < hp.length ∧ hp.getD p.1 .dead = .dead) → (bs.map (·.1)).Nodup →
    ∃ ρ', HSim C.P w fz ρ' Wr hp' ∧ (∀ b v, ρ b = some v → ρ' b = some v)
  | [], r, gs, bg, hp, hp', ρ, H, hb, h, _, _, _, _ => by
    simp only [backBoxes, Option.some.injEq] at h
    subst h
    exact ⟨ρ, H, fun _ _ h => h⟩
  | (i, .box ks cs) :: bs, r, gs, bg, hp, hp', ρ, H, hb, h, hnd, hgs, hids, hidn => by
    simp only [BxC] at hb
    obtain ⟨g, us, t, g1, g2, bg', b1, b2, b3, b4, rfl, rfl, b5⟩ := hb
    simp only [backBoxes] at h
    have hnd2 : (bg' ++ (g1 ++ g2)).Nodup ∧ g ∉ bg' ++ (g1 ++ g2) := by
      rw [List.cons_append, List.nodup_cons] at hnd
      exact ⟨hnd.2, hnd.1⟩
    have hnd3 := List.nodup_append.1 hnd2.1
    have hnd4 := List.nodup_append.1 hnd3.2.1
    obtain ⟨ρ1, G1, R1, T1⟩ := backBox_sound H b4 hnd4.1 (fun g hg => hgs g (by simp [hg]))
    obtain ⟨hi, hdead⟩ := hids (i, .box ks cs) (by simp)
    obtain ⟨tl, htl⟩ := G1.pre
    have hget : ∀ j, j < hp.length → (backBox ks cs r hp).2.getD j .dead = hp.getD j .dead := fun j hj => by
      rw [htl]; simp [List.getD, List.getElem?_append_left hj]
    have hlen : hp.length ≤ (backBox ks cs r hp).2.length := by rw [htl]; simp
    have hgl : ¬ Lives ρ1 (backBox ks cs r hp).2 g := fun hl => by
      rcases G1.lives g hl with y | y
      · exact (hgs g (by simp)).2 y
      · exact hnd2.2 (by simp [y])
    obtain ⟨H2, L2⟩ := G1.sim.revive (C := C) (i := i) (v := .pointer (some ⟨g, 0, none⟩)) (g := g) (B := .box ks (backBox ks cs r hp).1) (by omega) (by rw [hget i hi]; exact hdead) (G1.le _ _ b1) rfl
      (hgs g (by simp)).1 hgl ⟨g, us, t, G1.le _ _ b1, b2, R1, T1, b3⟩
    have hidn' : i ∉ bs.map (·.1) ∧ (bs.map (·.1)).Nodup := by simpa using hidn
    obtain ⟨ρ2, H3, L3⟩ := backBoxes_sound H2 (BxC.le (C := C) G1.le b5) h (by
        refine List.nodup_append.2 ⟨hnd3.1, hnd4.2.1, fun a ha b hb => hnd3.2.2 a ha b (by simp [hb])⟩)
      (fun g' hg' => ⟨(hgs g' (by simp at hg' ⊢; rcases hg' with h | h <;> simp [h])).1, fun hl => by
        rcases L2 g' hl with y | y
        · rcases G1.lives g' y with z | z
          · exact (hgs g' (by simp at hg' ⊢; rcases hg' with h | h <;> simp [h])).2 z
          · rcases List.mem_append.1 hg' with q | q
            · exact hnd3.2.2 g' q g' (by simp [z]) rfl
            · exact hnd4.2.2 g' z g' q rfl
        · subst y
          exact hnd2.2 (by simp at hg' ⊢; rcases hg' with h | h <;> simp [h])⟩)
      (fun p hp' => by
        obtain ⟨q1, q2⟩ := hids p (by simp [hp'])
        refine ⟨by simp; omega, ?_⟩
        have hne : i ≠ p.1 := fun e => hidn'.1 (by rw [e]; exact List.mem_map.2 ⟨p, hp', rfl⟩)
        rw [getD_set, if_neg (fun e => hne e.1), hget _ q1]
        exact q2) hidn'.2
    exact ⟨ρ2, H3, fun b v x => L3 b v (G1.le b v x)⟩
  | (i, .row _ _ _) :: bs, r, gs, bg, hp, hp', ρ, H, hb, h, hnd, hgs, hids, hidn => by
    simp only [BxC] at hb
    simp only [backBoxes] at h
    exact backBoxes_sound H hb h hnd hgs (fun p hp => hids p (by simp [hp])) (by simp at hidn ⊢; exact hidn.2)
  | (_, .iter _ _) :: _, _, _, _, _, _, _, _, hb, _, _, _, _, _ => by simp [BxC] at hb
  | (_, .dead) :: _, _, _, _, _, _, _, _, hb, _, _, _, _, _ => by simp [BxC] at hb

/-- The boxes, as the call itself has them. -/
def BxS (P : Program) (w : World) (fz : Fz) (ρ : Rho) : Nat → Skel → List L → List Nat → List Nat → Prop
  | _, [], _, gs, bg => gs = [] ∧ bg = []
  | b, none :: sk, r, gs, bg => BxS P w fz ρ (b + 1) sk r gs bg
  | b, some (ks, old) :: sk, r, gs, bg => ∃ g us t g1 g2 bg', ρ b = some (.pointer (some ⟨g, 0, none⟩)) ∧ w.heap[g]? = some (.cells us t (0, 0)) ∧ (∀ o, ¬ fz g o) ∧
      BkBox P w fz ρ ks old us.toList r g1 ∧ gs = g1 ++ g2 ∧ bg = g :: bg' ∧ BxS P w fz ρ (b + 1) sk (r.drop ks.length) g2 bg'

/-- What a call has done, told at its end. -/
structure EndOk (C : Cfg) (f : FuncId) (w : World) (fz : Fz) (ρ : Rho) (S : Nat → Prop) (sk : Skel) (r : List L) (v : Value) (w' : World) (fz' : Fz) : Prop where
  mv : Mv (fun k => S k ∨ w.heap.size ≤ k) w fz w' fz'
  lt : ∀ g o, fz' g o → g < w'.heap.size
  back : ∃ fn vals us gs gs2 bg, C.P.funcs[f]? = some fn ∧ v = retV vals ∧ Vals C.P fn.resultTypes.toList vals us ∧
    Bk C.P w' fz' (C.own f) (fn.resultTypes.toList.flatMap (kinds C.P)) us r gs ∧ BxS C.P w' fz' ρ 0 sk (r.drop (fn.resultTypes.toList.flatMap (kinds C.P)).length) gs2 bg ∧
    (bg ++ (gs ++ gs2)).Nodup ∧ ∀ g ∈ gs ++ gs2, S g ∨ w.heap.size ≤ g

/-- A request to enter a function is answered rightly. -/
def EnterOk (C : Cfg) (G : Req → R) : Prop := ∀ f args hp r, G (.enter f args hp) = some r → ∀ (w : World) (fz : Fz) (ρ : Rho) (S : Nat → Prop) (vs : Array Value),
  HSim C.P w fz ρ S hp → RepDs (Rep C.P w fz ρ) vs.toList args →
  Calls C.P f vs w fun e w' => ∃ v fz', e = .returned v ∧ EndOk C f w fz ρ S (hp.map skelB) r v w' fz'
/-- A function that is known by a contract. -/
def ExtOk (C : Cfg) : Prop := ∀ f S args hp r, C.ext f = some S → S args hp = some (true, r) → ∀ (w : World) (fz : Fz) (ρ : Rho) (S : Nat → Prop) (vs : Array Value),
  HSim C.P w fz ρ S hp → RepDs (Rep C.P w fz ρ) vs.toList args →
  Calls C.P f vs w fun e w' => ∃ v fz', e = .returned v ∧ EndOk C f w fz ρ S (hp.map skelB) r v w' fz'

end
end Go.Ab
namespace Go.Ab
section
variable {C : Cfg} {w w' : World} {fz fz' : Fz} {ρ ρ' : Rho} {Wr : Nat → Prop} {a : Act} {st : St}

theorem frzDs_sound : ∀ {ds ds' : List D} {hp hp' : List B} {fz : Fz} {vs : List Value}, HSim C.P w fz ρ Wr hp → frzDs hp ds = some (ds', hp') → RepDs (Rep C.P w fz ρ) vs ds →
    ∃ fz', FzExt fz fz' Wr ∧ HSim C.P w fz' ρ Wr hp' ∧ RepDs (Rep C.P w fz' ρ) vs ds' ∧ hp'.length = hp.length
  | [], ds', hp, hp', fz, vs, H, h, hv => by
    simp only [frzDs, Option.some.injEq, Prod.mk.injEq] at h
    obtain ⟨rfl, rfl⟩ := h
    exact ⟨fz, .refl, H, hv, rfl⟩
  | d :: ds, ds', hp, hp', fz, [], H, h, hv => by simp [RepDs] at hv
  | d :: ds, ds', hp, hp', fz, v :: vs, H, h, hv => by
    simp only [RepDs] at hv
    simp only [frzDs] at h
    split at h
    · rename_i d1 hp1 e1
      split at h
      · rename_i ds2 hp2 e2
        simp only [Option.some.injEq, Prod.mk.injEq] at h
        obtain ⟨rfl, rfl⟩ := h
        have one : ∃ fz1, FzExt fz fz1 Wr ∧ HSim C.P w fz1 ρ Wr hp1 ∧ RepD (Rep C.P w fz1 ρ) v d1 ∧ hp1.length = hp.length := by
          split at e1
          · simp only [Option.some.injEq, Prod.mk.injEq] at e1
            obtain ⟨rfl, rfl⟩ := e1
            exact ⟨fz, .refl, H, hv.1, rfl⟩
          · simp only [Option.some.injEq, Prod.mk.injEq] at e1
            obtain ⟨rfl, rfl⟩ := e1
            exact ⟨fz, .refl, H, hv.1, rfl⟩
          · simp only [Option.some.injEq, Prod.mk.injEq] at e1
            obtain ⟨rfl, rfl⟩ := e1
            exact ⟨fz, .refl, H, hv.1, rfl⟩
          · simp only [Option.map_eq_some_iff, Prod.mk.injEq] at e1
            obtain ⟨⟨l', hp0⟩, e3, rfl, rfl⟩ := e1
            obtain ⟨fz1, x1, H1, r1, f1, n1⟩ := frzL_sound H e3 hv.1
            exact ⟨fz1, x1, H1, r1, n1⟩
          · simp only [Option.map_eq_some_iff, Prod.mk.injEq] at e1
            obtain ⟨⟨ls', hp0⟩, e3, rfl, rfl⟩ := e1
            obtain ⟨cs, rfl, hr⟩ := hv.1
            obtain ⟨fz1, x1, H1, r1, f1, n1⟩ := frzLs_sound H e3 hr
            exact ⟨fz1, x1, H1, ⟨cs, rfl, r1⟩, n1⟩
          · cases e1
        obtain ⟨fz1, x1, H1, r1, n1⟩ := one
        obtain ⟨fz2, x2, H2, r2, n2⟩ := frzDs_sound H1 e2 (repDs_fz x1.1 hv.2)
        exact ⟨fz2, x1.trans x2, H2, ⟨repD_fz x2.1 r1, r2⟩, by omega⟩
      · cases h
    · cases h

theorem killIds_len : ∀ (ids : List Nat) (hp : List B), (killIds ids hp).length = hp.length
  | [], _ => rfl
  | i :: ids, hp => by simp only [killIds, List.foldl_cons]; exact (killIds_len ids _).trans (by simp)
theorem killIds_get : ∀ (ids : List Nat) (hp : List B) (b : Nat), (killIds ids hp).getD b .dead = if b ∈ ids then .dead else hp.getD b .dead
  | [], _, _ => by simp [killIds]
  | i :: ids, hp, b => by
    simp only [killIds, List.foldl_cons]
    have := killIds_get ids (hp.set i .dead) b
    simp only [killIds] at this
    rw [this, getD_set]
    by_cases h1 : b ∈ ids
    · simp [h1]
    · by_cases h2 : b = i
      · subst h2
        by_cases h3 : b < hp.length
        · simp [h1, h3]
        · have : hp.getD b .dead = .dead := by simp [List.getD, List.getElem?_eq_none (Nat.le_of_not_lt h3)]
          simp [h1, h3, this]
      · have h3 : ¬ (i = b ∧ i < hp.length) := fun h => h2 h.1.symm
        simp [h1, h2, h3]

/-- Blocks go out of sight. -/
theorem HSim.hide {hp : List B} (H : HSim C.P w fz ρ Wr hp) (ids : List Nat) : HSim C.P w fz ρ Wr (killIds ids hp) := by
  have hl : ∀ b, (killIds ids hp).getD b .dead ≠ .dead → hp.getD b .dead ≠ .dead := by
    intro b h
    rw [killIds_get] at h
    split at h
    · exact absurd rfl h
    · exact h
  refine ⟨H.one, fun b h => H.out b (by rw [killIds_len] at h; exact h), fun b => ?_, fun b c v u g hne h1 h2 => H.dis b c v u g hne (hl b h1) (hl c h2), fun b u g h1 => H.wr b u g (hl b h1), H.lt⟩
  rw [killIds_get]
  split
  · trivial
  · exact H.blk b

theorem HSim.live_lt {hp : List B} (H : HSim C.P w fz ρ Wr hp) {g : Nat} (h : Lives ρ hp g) : g < w.heap.size := by
  obtain ⟨b, u, hd, hu, hg⟩ := h
  have hbb := H.blk b
  cases hc : hp.getD b .dead with
  | dead => exact absurd hc hd
  | box ks cs =>
    rw [hc] at hbb
    obtain ⟨g', us, t, e1, e2, _⟩ := hbb
    rw [e1] at hu; cases hu
    simp only [bk, Option.some.injEq] at hg; subst hg
    exact (Array.getElem?_eq_some_iff.1 e2).1
  | row t xs ex =>
    rw [hc] at hbb
    obtain ⟨v', us, e1, e2, _⟩ := hbb
    rw [e1] at hu; cases hu
    exact (e2.lt g (by rw [ownBlock_bk e2]; exact hg)).2
  | iter s pos =>
    rw [hc] at hbb
    obtain ⟨g', e1, e2, _⟩ := hbb
    rw [e1] at hu; cases hu
    simp only [bk, Option.some.injEq] at hg; subst hg
    exact (Array.getElem?_eq_some_iff.1 e2).1

/-- The heap behind a call that writes elsewhere. -/
theorem HSim.moved {hp : List B} {WrC : Nat → Prop} (H : HSim C.P w fz ρ Wr hp) (M : Mv WrC w fz w' fz') (hlt : ∀ g o, fz' g o → g < w'.heap.size) (hd : ∀ g, Lives ρ hp g → ¬ WrC g) :
    HSim C.P w' fz' ρ Wr hp := by
  refine ⟨H.one, H.out, fun b => ?_, H.dis, H.wr, hlt⟩
  by_cases e : hp.getD b .dead = .dead
  · rw [e]; trivial
  · refine (H.blk b).mono C.P M.keep M.ext.1 (fun _ h => h) (fun u g hu hg => ?_) (fun _ _ _ h => h)
    have hL : Lives ρ hp g := ⟨b, u, e, hu, hg⟩
    refine ⟨M.block g (H.live_lt hL) (hd g hL), fun o ho => ?_⟩
    rcases M.ext.2 g o ho with h | h
    · exact h
    · exact absurd h (hd g hL)

theorem nodupB_spec : ∀ {l : List Nat}, nodupB l = true → l.Nodup
  | [], _ => List.nodup_nil
  | x :: xs, h => by
    simp only [nodupB, Bool.and_eq_true, Bool.not_eq_true', List.contains_eq_mem, decide_eq_false_iff_not] at h
    exact List.nodup_cons.2 ⟨h.1, nodupB_spec h.2⟩

/-- The places of the blocks that a call takes over, in its own numbers. -/
def rhoC (ids : List Nat) (ρ : Rho) : Rho := fun j => (ids[j]?).bind ρ
theorem rhoC_ren {ids : List Nat} {b : Nat} (h : b ∈ ids) : rhoC ids ρ (ids.idxOf b) = ρ b := by
  have hl := List.idxOf_lt_length_of_mem h
  simp only [rhoC, List.getElem?_eq_getElem hl, Option.bind_some]
  rw [List.getElem_idxOf]

mutual
theorem repD_ren {ids : List Nat} : ∀ {v : Value} {d : D}, RepD (Rep C.P w fz ρ) v d → (∀ b ∈ refsD d, b ∈ ids) → RepD (Rep C.P w fz (rhoC ids ρ)) v (renD (fun i => ids.idxOf i) d)
  | v, .lf l, h, hb => by
    simp only [RepD, renD] at h ⊢
    exact (rep_ren_aux C.P w fz ρ (rhoC ids ρ) _ l v fun b hbb => rhoC_ren (hb b (by simpa [refsD] using hbb))).1 h
  | v, .agg ls, h, hb => by
    simp only [RepD, renD] at h ⊢
    obtain ⟨cs, e, h⟩ := h
    refine ⟨cs, e, ?_⟩
    rw [renLs_map]
    have hh := rep_ren_auxs C.P w fz ρ (rhoC ids ρ) (fun i => ids.idxOf i) ls fun b hbb => rhoC_ren (hb b (by simpa [refsD] using hbb))
    refine RepLs.of (by simp [h.length]) fun i v l h1 h2 => ?_
    simp only [List.getElem?_map, Option.map_eq_some_iff] at h2
    obtain ⟨l0, h3, rfl⟩ := h2
    obtain ⟨l1, h4, h5⟩ := h.get' i v h1
    rw [h3] at h4; cases h4
    exact (hh.2.2 i l0 h3 v).1 h5
  | v, .tup ds, h, hb => by
    simp only [RepD, renD] at h ⊢
    obtain ⟨vs, e, h⟩ := h
    exact ⟨vs, e, repDs_ren h (by simpa [refsD] using hb)⟩
theorem repDs_ren {ids : List Nat} : ∀ {vs : List Value} {ds : List D}, RepDs (Rep C.P w fz ρ) vs ds → (∀ b ∈ refsDs ds, b ∈ ids) → RepDs (Rep C.P w fz (rhoC ids ρ)) vs (renDs (fun i => ids.idxOf i) ds)
  | [], [], _, _ => by simp [RepDs, renDs]
  | v :: vs, d :: ds, h, hb => by
    simp only [RepDs, renDs] at h ⊢
    exact ⟨repD_ren h.1 fun b hbb => hb b (by simp only [refsDs, List.mem_append]; exact .inl hbb), repDs_ren h.2 fun b hbb => hb b (by simp only [refsDs, List.mem_append]; exact .inr hbb)⟩
  | [], _ :: _, h, _ => by simp [RepDs] at h
  | _ :: _, [], h, _ => by simp [RepDs] at h
end

theorem repLs_ren {ids : List Nat} {vs : List Value} {ls : List L} (h : RepLs (Rep C.P w fz ρ) vs ls) (hb : ∀ b ∈ refsLs ls, b ∈ ids) : RepLs (Rep C.P w fz (rhoC ids ρ)) vs (renLs (fun i => ids.idxOf i) ls) := by
  rw [renLs_map]
  have hh := rep_ren_auxs C.P w fz ρ (rhoC ids ρ) (fun i => ids.idxOf i) ls fun b hbb => rhoC_ren (hb b hbb)
  refine RepLs.of (by simp [h.length]) fun i v l h1 h2 => ?_
  simp only [List.getElem?_map, Option.map_eq_some_iff] at h2
  obtain ⟨l0, h3, rfl⟩ := h2
  obtain ⟨l1, h4, h5⟩ := h.get' i v h1
  rw [h3] at h4; cases h4
  exact (hh.2.2 i l0 h3 v).1 h5
theorem tyB_ren {f : Nat → Nat} : ∀ {ks : List K} {ls : List L}, TyB ks ls → TyB ks (renLs f ls)
  | [], [], _ => trivial
  | k :: _, l :: _, h => ⟨by
      have := h.1
      cases k <;> simp only [TyK] at this ⊢ <;> first | trivial | (obtain ⟨_, rfl⟩ := this; exact ⟨_, rfl⟩), tyB_ren h.2⟩

/-- The blocks that a call takes over. -/
def Taken (ρ : Rho) (hp : List B) (ids : List Nat) (g : Nat) : Prop := ∃ i ∈ ids, ∃ u, hp.getD i .dead ≠ .dead ∧ ρ i = some u ∧ bk u = some g

theorem getD_map {ids : List Nat} {f : Nat → B} {j : Nat} : (ids.map f).getD j .dead = match ids[j]? with | some i => f i | none => .dead := by
  simp only [List.getD, List.getElem?_map]
  cases ids[j]? <;> rfl

theorem HSim.taken {hp : List B} (H : HSim C.P w fz ρ Wr hp) {ids : List Nat} (hn : ids.Nodup) (hcl : ∀ i ∈ ids, ∀ b ∈ refsB (hp.getD i .dead), b ∈ ids) :
    HSim C.P w fz (rhoC ids ρ) (Taken ρ hp ids) ((ids.map fun i => hp.getD i .dead).map (renB fun i => ids.idxOf i)) := by
  rw [List.map_map]
  have hrd : ∀ x : B, renB (fun i => ids.idxOf i) x = .dead ↔ x = .dead := fun x => by cases x <;> simp [renB]
  have get : ∀ j, ((ids.map ((renB fun i => ids.idxOf i) ∘ fun i => hp.getD i .dead))).getD j .dead ≠ .dead → ∃ i, ids[j]? = some i ∧ hp.getD i .dead ≠ .dead := by
    intro j h
    rw [getD_map] at h
    split at h
    · rename_i i hi
      exact ⟨i, hi, fun e => h ((hrd _).2 e)⟩
    · exact absurd rfl h
  refine ⟨fun b v hv => ?_, fun b hb => ?_, fun j => ?_, ?_, ?_, H.lt⟩
  · simp only [rhoC, Option.bind_eq_some_iff] at hv
    obtain ⟨i, _, hi⟩ := hv
    exact H.one i v hi
  · simp only [List.length_map] at hb
    simp [rhoC, List.getElem?_eq_none hb]
  · rw [getD_map]
    split
    · rename_i i hi
      have hmem := List.mem_of_getElem? hi
      have hρ : rhoC ids ρ j = ρ i := by simp [rhoC, hi]
      have hb := H.blk i
      have hc := hcl i hmem
      show BS C.P w fz (rhoC ids ρ) j (renB _ (hp.getD i .dead))
      cases hbb : hp.getD i .dead with
      | dead => trivial
      | box ks cs =>
        rw [hbb] at hb hc
        obtain ⟨g, us, t, h1, h2, h3, h4, h5⟩ := hb
        exact ⟨g, us, t, hρ.trans h1, h2, repLs_ren h3 (by simpa [refsB] using hc), tyB_ren h4, h5⟩
      | row t xs ex =>
        rw [hbb] at hb
        obtain ⟨v, us, h1, h2, h3, h4, h5⟩ := hb
        refine ⟨v, us, hρ.trans h1, h2, h3.mono fun u l hl hu => ?_, h4, h5⟩
        obtain ⟨e, he, hle⟩ := List.mem_flatten.1 hl
        obtain ⟨kk, hk⟩ := HasKs.mem (h4 e he) l hle
        exact hu.of_hasK C.P hk
      | iter s pos =>
        rw [hbb] at hb
        obtain ⟨g, h1, h2, h3⟩ := hb
        exact ⟨g, hρ.trans h1, h2, h3⟩
    · trivial
  · intro j k v u g hne h1 h2 hv hu
    obtain ⟨i, hi, hd⟩ := get j h1
    obtain ⟨i', hi', hd'⟩ := get k h2
    have e1 : ρ i = some v := by simpa [rhoC, hi] using hv
    have e2 : ρ i' = some u := by simpa [rhoC, hi'] using hu
    refine H.dis i i' v u g (fun e => hne ?_) hd hd' e1 e2
    subst e
    have hj := (List.getElem?_eq_some_iff.1 hi).1
    have hk := (List.getElem?_eq_some_iff.1 hi').1
    have e3 : ids[j] = ids[k] := by
      rw [(List.getElem?_eq_some_iff.1 hi).2, (List.getElem?_eq_some_iff.1 hi').2]
    exact (List.getElem_inj hn).1 e3
  · intro j v g h1 hv hg
    obtain ⟨i, hi, hd⟩ := get j h1
    exact ⟨i, List.mem_of_getElem? hi, v, hd, by simpa [rhoC, hi] using hv, hg⟩

end
end Go.Ab
namespace Go.Ab
section
variable {C : Cfg} {w w' : World} {fz fz' : Fz} {ρ ρ' : Rho} {Wr : Nat → Prop} {a : Act} {st : St}

theorem bkBox_ren {ids : List Nat} {f : Nat → Nat} (hf : ∀ b ∈ ids, rhoC ids ρ (f b) = ρ b) : ∀ {ks : List K} {cs : List L} {us : List Value} {r : List L} {gs : List Nat}, (∀ b ∈ refsLs cs, b ∈ ids) →
    BkBox C.P w fz (rhoC ids ρ) ks (skelLs ks (renLs f cs)) us r gs → BkBox C.P w fz ρ ks cs us r gs
  | [], _, [], _, _, _, h => by simpa [BkBox] using h
  | [], _, _ :: _, _, _, _, h => by simp [BkBox] at h
  | k :: _, _, [], _, _, _, h => by cases k <;> simp [BkBox] at h
  | k :: ks, cs, u :: us, r, gs, hc, h => by
    have ht : (renLs f cs).tail = renLs f cs.tail := by cases cs <;> simp [renLs]
    have hct : ∀ b ∈ refsLs cs.tail, b ∈ ids := by
      cases cs with
      | nil => simp [refsLs]
      | cons c cs => exact fun b hb => hc b (by simp only [refsLs, List.mem_append]; exact .inr hb)
    cases k with
    | sl t =>
      simp only [skelLs, BkBox, ht, List.tail_cons] at h ⊢
      obtain ⟨xs, gs', a, b, c, d⟩ := h
      exact ⟨xs, gs', a, b, c, bkBox_ren hf hct d⟩
    | oth =>
      simp only [skelLs, BkBox, ht, List.tail_cons, List.headD_cons] at h ⊢
      refine ⟨?_, bkBox_ren hf hct h.2⟩
      cases cs with
      | nil => exact .any _
      | cons c cs =>
        have h1 := h.1
        simp only [renLs, List.headD_cons] at h1
        exact (rep_ren_aux C.P w fz ρ (rhoC ids ρ) f c u fun b hb => hf b (hc b (by simp only [refsLs, List.mem_append]; exact .inl hb))).2 h1
    | int k => simp only [skelLs, BkBox, ht, List.tail_cons] at h ⊢; exact ⟨h.1, h.2.1, bkBox_ren hf hct h.2.2⟩
    | bool => simp only [skelLs, BkBox, ht, List.tail_cons] at h ⊢; exact ⟨h.1, h.2.1, bkBox_ren hf hct h.2.2⟩
    | str => simp only [skelLs, BkBox, ht, List.tail_cons] at h ⊢; exact ⟨h.1, h.2.1, bkBox_ren hf hct h.2.2⟩

/-- From the call's own numbers to the caller's. -/
theorem bxS_bxC {ids : List Nat} {hp hp0 : List B} {hp1 : List B} (hcl : ∀ i ∈ ids, ∀ b ∈ refsB (hp.getD i .dead), b ∈ ids) :
    ∀ (is : List Nat) (j : Nat) {r : List L} {gs bg : List Nat}, (∀ q, is[q]? = ids[j + q]?) → (∃ hp', backBoxes r (is.zip (is.map fun i => hp.getD i .dead)) hp0 = some hp') →
    BxS C.P w fz (rhoC ids ρ) j ((is.map fun i => renB (fun i => ids.idxOf i) (hp.getD i .dead)).map skelB) r gs bg → BxC C.P w fz ρ (is.zip (is.map fun i => hp.getD i .dead)) r gs bg
  | [], _, _, _, _, _, _, h => by simpa [BxS, BxC] using h
  | i :: is, j, r, gs, bg, hq, hbb, h => by
    have hi : ids[j]? = some i := by have := hq 0; simpa using this.symm
    have hq' : ∀ q, is[q]? = ids[j + 1 + q]? := fun q => by
      have := hq (q + 1)
      rw [List.getElem?_cons_succ] at this
      rw [this]; congr 1; omega
    have hmem := List.mem_of_getElem? hi
    simp only [List.map_cons, List.zip_cons_cons] at h hbb ⊢
    cases hb : hp.getD i .dead with
    | dead => rw [hb] at hbb; obtain ⟨_, e⟩ := hbb; simp [backBoxes] at e
    | iter s p => rw [hb] at hbb; obtain ⟨_, e⟩ := hbb; simp [backBoxes] at e
    | row t xs ex =>
      rw [hb] at h hbb
      simp only [renB, skelB, BxS, BxC] at h ⊢
      simp only [backBoxes] at hbb
      exact bxS_bxC (hp1 := hp1) hcl is (j + 1) hq' hbb h
    | box ks cs =>
      rw [hb] at h hbb
      have hc := hcl i hmem
      rw [hb] at hc
      simp only [renB, skelB, BxS, BxC] at h ⊢
      obtain ⟨g, us, t, g1, g2, bg', a1, a2, a3, a4, a5, a6, a7⟩ := h
      refine ⟨g, us, t, g1, g2, bg', ?_, a2, a3, bkBox_ren (ids := ids) (f := fun i => ids.idxOf i) (fun b hb => rhoC_ren hb) (by simpa [refsB] using hc) a4, a5, a6, ?_⟩
      · simpa [rhoC, hi] using a1
      · simp only [backBoxes] at hbb
        exact bxS_bxC (hp0 := _) (hp1 := hp1) hcl is (j + 1) hq' hbb a7

theorem bxC_blocks : ∀ {bs : List (Nat × B)} {r : List L} {gs bg : List Nat}, BxC C.P w fz ρ bs r gs bg → ∀ g ∈ bg, ∃ p ∈ bs, p.2 ≠ .dead ∧ ρ p.1 = some (.pointer (some ⟨g, 0, none⟩))
  | [], _, _, _, h, g, hg => by simp [BxC] at h; rw [h.2] at hg; simp at hg
  | (i, .box ks cs) :: bs, r, gs, bg, h, g, hg => by
    simp only [BxC] at h
    obtain ⟨g0, us, t, g1, g2, bg', a, b, c, d, e, rfl, k⟩ := h
    rcases List.mem_cons.1 hg with e | e
    · subst e; exact ⟨_, List.mem_cons_self, by simp, a⟩
    · obtain ⟨p, hp, q⟩ := bxC_blocks k g e
      exact ⟨p, List.mem_cons_of_mem _ hp, q⟩
  | (i, .row _ _ _) :: bs, r, gs, bg, h, g, hg => by
    simp only [BxC] at h
    obtain ⟨p, hp, q⟩ := bxC_blocks h g hg
    exact ⟨p, List.mem_cons_of_mem _ hp, q⟩
  | (_, .iter _ _) :: _, _, _, _, h, _, _ => by simp [BxC] at h
  | (_, .dead) :: _, _, _, _, h, _, _ => by simp [BxC] at h

theorem bxC_live : ∀ {bs : List (Nat × B)} {r : List L} {gs bg : List Nat}, BxC C.P w fz ρ bs r gs bg → ∀ p ∈ bs, p.2 ≠ .dead
  | [], _, _, _, h, p, hp => by simp at hp
  | (i, .box ks cs) :: bs, r, gs, bg, h, p, hp => by
    simp only [BxC] at h
    obtain ⟨g0, us, t, g1, g2, bg', a, b, c, d, e, f, k⟩ := h
    rcases List.mem_cons.1 hp with e | e
    · subst e; simp
    · exact bxC_live k p e
  | (i, .row _ _ _) :: bs, r, gs, bg, h, p, hp => by
    simp only [BxC] at h
    rcases List.mem_cons.1 hp with e | e
    · subst e; simp
    · exact bxC_live h p e
  | (_, .iter _ _) :: _, _, _, _, h, _, _ => by simp [BxC] at h
  | (_, .dead) :: _, _, _, _, h, _, _ => by simp [BxC] at h

theorem rep_retV {r : Value → L → Prop} {vals : List Value} {ds : List D} (h : RepDs r vals ds) : RepD r (retV vals) (retD ds) := by
  match vals, ds, h with
  | [], [], _ => exact ⟨#[], rfl, by simp [RepDs]⟩
  | [v], [d], h => exact h.1
  | v :: u :: vs, d :: e :: ds, h => exact ⟨(v :: u :: vs).toArray, rfl, by simpa using h⟩

theorem callA_body {G : Req → R} {f : FuncId} {args : List D} {κ : D → St → R} {r : List L} (h : callA C G f args st κ = some r) : ∃ fn, C.P.funcs[f]? = some fn ∧ fn.body.isNone = false := by
  unfold callA at h
  split at h
  · cases h
  rename_i fn hfn
  split at h
  · cases h
  rename_i hb
  exact ⟨fn, hfn, Bool.eq_false_iff.2 hb⟩

theorem ansA_sound {G : Req → R} (hG : EnterOk C G) (hE : ExtOk C) {f : FuncId} {as : List D} {bs : List B} {κ : List L → R} {r : List L} (h : ansA C G f as bs κ = some r) :
    ∃ r1, (∀ (w : World) (fz : Fz) (ρ : Rho) (S : Nat → Prop) (vs : Array Value), HSim C.P w fz ρ S bs → RepDs (Rep C.P w fz ρ) vs.toList as →
      Calls C.P f vs w fun e w' => ∃ v fz', e = .returned v ∧ EndOk C f w fz ρ S (bs.map skelB) r1 v w' fz') ∧ κ r1 = some r := by
  unfold ansA at h
  split at h
  · rename_i SP hext
    split at h
    case h_2 => cases h
    rename_i g r1 hr1
    cases g
    case false => cases h
    exact ⟨r1, hE f SP as bs r1 hext hr1, h⟩
  · simp only [Option.bind_eq_some_iff] at h
    obtain ⟨r1, hr1, h⟩ := h
    rw [fR_eq] at h
    exact ⟨r1, hG f as bs r1 hr1, h⟩

theorem callA_sound {G : Req → R} (hG : EnterOk C G) (hE : ExtOk C) (S : Sim C.P w fz ρ Wr a st) (hw : ∀ k, w.heap.size ≤ k → Wr k) {f : FuncId} {args : List D} {vs : Array Value} {κ : D → St → R} {r : List L}
    (hargs : RepDs (Rep C.P w fz ρ) vs.toList args) (h : callA C G f args st κ = some r) :
    Calls C.P f vs w fun e w' => ∃ v d st' fz' ρ', e = .returned v ∧ κ d st' = some r ∧ RepD (Rep C.P w' fz' ρ') v d ∧ Sim C.P w' fz' ρ' Wr a st' ∧ Mv Wr w fz w' fz' ∧ RhoLe ρ ρ' := by
  unfold callA at h
  split at h
  · cases h
  rename_i fn hfn
  split at h
  · cases h
  split at h
  · cases h
  rename_i as hp hfr
  obtain ⟨fz1, x1, H1, hargs1, hlen1⟩ := frzDs_sound S.hp hfr hargs
  have S1 : Sim C.P w fz1 ρ Wr a { st with hp := hp } := S.fzmono x1.1 H1
  dsimp only at h
  split at h
  case isFalse => cases h
  rename_i hck
  simp only [Bool.and_eq_true, List.all_eq_true, List.contains_eq_mem, decide_eq_true_eq] at hck
  obtain ⟨hnb, hck1, hck2⟩ := hck
  generalize hids : reachN hp 100 (refsDs as) [] = ids at *
  have hn := nodupB_spec hnb
  have hcl : ∀ i ∈ ids, ∀ b ∈ refsB (hp.getD i .dead), b ∈ ids := fun i hi b hb => hck2 _ (List.mem_map.2 ⟨i, hi, rfl⟩) b hb
  obtain ⟨r1, hr1, h⟩ := ansA_sound (C := C) hG hE h
  split at h
  case h_2 => cases h
  rename_i ds rr hp' hback
  split at h
  case h_2 => cases h
  rename_i hp'' hbx
  have HC := H1.taken (C := C) hn hcl
  have hargs2 := repDs_ren (C := C) (ids := ids) hargs1 hck1
  refine (hr1 w fz1 (rhoC ids ρ) (Taken ρ hp ids) vs HC hargs2).mono ?_
  rintro e w' ⟨v, fz', rfl, E⟩
  obtain ⟨fn', vals, us, gs, gs2, bg, k1, k2, k3, k4, k5, k6, k7⟩ := E.back
  rw [hfn] at k1
  cases k1
  have hTW : ∀ g, Taken ρ hp ids g → Wr g := by
    rintro g ⟨i, hi, u, hd, hu, hg⟩
    exact H1.wr i u g hd hu hg
  have hM : Mv Wr w fz1 w' fz' := E.mv.mono fun k hk => hk.elim (hTW k) (hw k)
  -- what is not taken over stays
  have hsep : ∀ g, Lives ρ (killIds ids hp) g → ¬ Taken ρ hp ids g ∧ g < w.heap.size := by
    rintro g ⟨b, u, hd, hu, hg⟩
    rw [killIds_get] at hd
    split at hd
    · exact absurd rfl hd
    rename_i hnb
    refine ⟨?_, H1.live_lt ⟨b, u, hd, hu, hg⟩⟩
    rintro ⟨i, hi, u', hd', hu', hg'⟩
    exact H1.dis b i u u' g (fun e => hnb (e ▸ hi)) hd hd' hu hu' hg hg'
  have H2 : HSim C.P w' fz' ρ Wr (killIds ids hp) := (H1.hide (C := C) ids).moved E.mv E.lt fun g hg hh => by
    have := hsep g hg
    exact hh.elim this.1 fun hh => by omega
  have hfree : ∀ g, (Taken ρ hp ids g ∨ w.heap.size ≤ g) → Wr g ∧ ¬ Lives ρ (killIds ids hp) g := fun g hg =>
    ⟨hg.elim (hTW g) (hw g), fun hl => by have := hsep g hl; exact hg.elim this.1 fun hh => by omega⟩
  have n1 := List.nodup_append.1 k6
  have n2 := List.nodup_append.1 n1.2.1
  obtain ⟨ρ2, G2, R2, hrr⟩ := backD_sound (C := C) H2 k3 k4 hback n2.1 (fun g hg => hfree g (k7 g (by simp [hg])))
  -- the boxes
  have hsk : (ids.map fun i => hp.getD i .dead).map (renB fun i => ids.idxOf i) = ids.map fun i => renB (fun i => ids.idxOf i) (hp.getD i .dead) := by rw [List.map_map]; rfl
  rw [hsk, ← hrr] at k5
  have hbxC := bxS_bxC (C := C) (hp1 := []) hcl ids 0 (fun q => by simp) ⟨_, hbx⟩ k5
  have hbg : ∀ g ∈ bg, Taken ρ hp ids g := by
    intro g hg
    obtain ⟨p, hp1, hp2, hp3⟩ := bxC_blocks hbxC g hg
    obtain ⟨q, hq⟩ := List.mem_iff_getElem?.1 hp1
    rw [List.getElem?_zip_eq_some] at hq
    obtain ⟨q1, q2⟩ := hq
    simp only [List.getElem?_map, q1, Option.map_some, Option.some.injEq] at q2
    exact ⟨p.1, List.mem_of_getElem? q1, _, by rw [q2]; exact hp2, hp3, rfl⟩
  obtain ⟨tl, htl⟩ := G2.pre
  obtain ⟨ρ3, H3, L3⟩ := backBoxes_sound (C := C) G2.sim (BxC.le (C := C) G2.le hbxC) hbx
    (List.nodup_append.2 ⟨n1.1, n2.2.1, fun x hx y hy => n1.2.2 x hx y (by simp [hy])⟩)
    (fun g hg => by
      have hgT : Taken ρ hp ids g ∨ w.heap.size ≤ g := by
        rcases List.mem_append.1 hg with q | q
        · exact .inl (hbg g q)
        · exact k7 g (by simp [q])
      refine ⟨(hfree g hgT).1, fun hl => ?_⟩
      rcases G2.lives g hl with y | y
      · exact (hfree g hgT).2 y
      · rcases List.mem_append.1 hg with q | q
        · exact n1.2.2 g q g (by simp [y]) rfl
        · exact n2.2.2 g y g q rfl)
    (fun p hp1 => by
      obtain ⟨q, hq⟩ := List.mem_iff_getElem?.1 hp1
      rw [List.getElem?_zip_eq_some] at hq
      obtain ⟨q1, q2⟩ := hq
      have hm := List.mem_of_getElem? q1
      have hk := killIds_get ids hp p.1
      rw [if_pos hm] at hk
      have hnd := bxC_live hbxC p hp1
      simp only [List.getElem?_map, q1, Option.map_some, Option.some.injEq] at q2
      rw [← q2] at hnd
      have hlt : p.1 < hp.length := by
        refine Nat.lt_of_not_le fun hle => hnd ?_
        simp [List.getD, List.getElem?_eq_none hle]
      have hlt' : p.1 < (killIds ids hp).length := by rw [killIds_len]; exact hlt
      rw [htl]
      refine ⟨by rw [List.length_append]; omega, ?_⟩
      refine Eq.trans ?_ hk
      simp only [List.getD]
      rw [List.getElem?_append_left hlt'])
    (by
      rw [List.map_fst_zip (by simp)]
      exact hn)
  refine ⟨v, _, _, fz', ρ3, rfl, h, k2 ▸ rep_retV (RepDs.mono R2 fun v l _ hv => rep_le hv L3), ⟨?_, H3⟩, (Mv.of_fz x1).trans hM, fun b p hp => L3 b _ (G2.le b _ hp)⟩
  exact RepDs.mono S1.tm fun v l _ hv => hv.mono C.P hM.keep hM.ext.1 fun b _ v hv => L3 b v (G2.le b v hv)

end
end Go.Ab
namespace Go.Ab
section
variable {C : Cfg} {w w' : World} {fz fz' : Fz} {ρ ρ' : Rho} {Wr : Nat → Prop} {a : Act} {st : St}

theorem cond_some {g : Bool} {x : R} {r : List L} (h : cond g x none = some r) : g = true ∧ x = some r := by
  cases g
  · cases h
  · exact ⟨rfl, h⟩

theorem Sim.putTmp (S : Sim C.P w fz ρ Wr a st) (dst : Option Tmp) {v : Value} {d : D} (h : RepD (Rep C.P w fz ρ) v d) : Sim C.P w fz ρ Wr (a.put dst v) (st.put dst d) := by
  cases dst with
  | none => exact S
  | some t =>
    refine ⟨?_, S.hp⟩
    show RepDs _ (a.tmps.setIfInBounds t v).toList (st.tm.set t d)
    rw [Array.toList_setIfInBounds]
    exact S.tm.set _ t h

/-- What holds behind an operation. -/
def After (C : Cfg) (w : World) (fz : Fz) (ρ : Rho) (Wr : Nat → Prop) (a : Act) (κ : D → St → R) (r : List L) (v : Value) (w' : World) : Prop :=
  ∃ d st' fz' ρ', κ d st' = some r ∧ RepD (Rep C.P w' fz' ρ') v d ∧ Sim C.P w' fz' ρ' Wr a st' ∧ Mv Wr w fz w' fz' ∧ RhoLe ρ ρ'

theorem OpOk.wp {o : Oper} {κ : D → St → R} {r : List L} (h : OpOk C w fz ρ Wr a o κ r) {next : Act → World → Prop} {Q : Exit → Act → World → Prop}
    (hk : ∀ v w', After C w fz ρ Wr a κ r v w' → next (a.put o.dst v) w') : o.wp C.P a w next Q := by
  obtain ⟨d, st', v, w', fz', ρ', k1, k2, k3, k4, k5, k6⟩ := h
  have hn := hk v w' ⟨d, st', fz', ρ', k1, k2, k3, k4, k5⟩
  unfold Oper.wp
  rcases k6 with e | ⟨e, rfl⟩
  · rw [e]; exact hn
  · rw [e]; exact hn

theorem PureOk.opOk {o : Oper} {d : D} {hp' : List B} (S : Sim C.P w fz ρ Wr a st) (h : PureOk C w fz ρ Wr a o d hp' st.hp.length) {κ : D → St → R} {r : List L} (hκ : κ d { st with hp := hp' } = some r) :
    OpOk C w fz ρ Wr a o κ r := by
  obtain ⟨v, fz', h1, h2, h3, h4, h5⟩ := h
  exact ⟨d, _, v, w, fz', ρ, hκ, h2, S.fzmono h4.1 h3, .of_fz h4, .refl ρ, .inl (h1 w fun _ _ _ => rfl)⟩

/-- No function of the program is the one that counts goroutines. -/
def NoCount (P : Program) : Prop := ∀ (f : FuncId) (fn : Func), P.funcs[f]? = some fn → (fn.name == "runtime.NumGoroutine") = false

theorem run_call_clo {o : Oper} {c : Call} {x : Operand} {f : FuncId} {vs : Array Value} {fn : Func} (hN : NoCount C.P) (hop : o.op = .call c) (hc : c.callee = .value x) (hx : a.eval x = .func (.func f) #[] vs)
    (hf : C.P.funcs[f]? = some fn) (hb : fn.body.isNone = false) : (execOp a.eval o).run C.P w = .ok (.enter f (c.args.map a.eval ++ vs)) w := by
  have hn := hN f fn hf
  simp only [execOp, hop, resolve, hc, hx, Deferred.ofValue, invoke, callFunc]
  have hn' : fn.name ≠ "runtime.NumGoroutine" := by simpa using hn
  have hb' : fn.body ≠ none := by intro e; rw [e] at hb; cases hb
  simp [program, Sem.run, hf, hn', hb']

theorem opA_sound {G : Req → R} (hG : EnterOk C G) (hE : ExtOk C) (hN : NoCount C.P) (S : Sim C.P w fz ρ Wr a st) (hw : ∀ k, w.heap.size ≤ k → Wr k) {o : Oper} {κ : D → St → R} {r : List L}
    (h : opA C G o st κ = some r) {next : Act → World → Prop} {Q : Exit → Act → World → Prop} (hk : ∀ v w', After C w fz ρ Wr a κ r v w' → next (a.put o.dst v) w') : o.wp C.P a w next Q := by
  unfold opA at h
  split at h
  · rename_i g d hp hpure
    obtain ⟨hg, h⟩ := cond_some h
    exact ((pureA_sound S hpure hg).opOk S h).wp hk
  · have h0 := h
    unfold effA at h
    split at h
    · rename_i t hop; exact (alloc_ok S hw hop h0).wp hk
    · rename_i t x hop; exact (box_ok S hw hop h0).wp hk
    · rename_i t len parts hop; exact (buildSlice_ok S hw hop h0).wp hk
    · rename_i t x y hop; exact (store_ok S hop h0).wp hk
    · rename_i t l c hop; exact (makeSlice_ok S hw hop h0).wp hk
    · rename_i t x hop; exact (range_ok S hw hop h0).wp hk
    · rename_i it hop; exact (next_ok S hop h0).wp hk
    · rename_i c hop
      split at h
      · rename_i hcal
        split at h
        · rename_i s x hargs
          have : c.args = #[s, x] := by rw [← Array.toArray_toList (xs := c.args), hargs]
          exact (append_ok S hw hop hcal this h).wp hk
        · cases h
      · rename_i x hcal
        split at h
        · rename_i f cs hl
          have hx := S.leaf x
          rw [hl] at hx
          generalize hv : a.eval x = vx at hx
          cases hx with
          | clo _ vs _ hsz hcs =>
            obtain ⟨fn, hf, hb⟩ := callA_body h
            have hrun := run_call_clo (w := w) hN hop hcal hv hf hb
            have hargs : RepDs (Rep C.P w fz ρ) (c.args.map a.eval ++ vs).toList (c.args.toList.map st.ev ++ cs.map .lf) := by
              rw [Array.toList_append]
              refine RepDs.append _ ?_ ?_
              · rw [Array.toList_map]
                refine RepDs.of _ (by simp) fun i v d h1 h2 => ?_
                simp only [List.getElem?_map, Option.map_eq_some_iff] at h1 h2
                obtain ⟨y, e1, rfl⟩ := h1
                obtain ⟨y', e2, rfl⟩ := h2
                rw [e1] at e2; cases e2
                exact S.ev y
              · refine RepDs.of _ (by simp [hsz]) fun i v d h1 h2 => ?_
                simp only [List.getElem?_map, Option.map_eq_some_iff] at h2
                obtain ⟨l, e2, rfl⟩ := h2
                have := hcs i l e2
                have e1 : vs.getD i undef = v := by
                  have : vs[i]? = some v := by simpa using h1
                  simp [this]
                rw [e1] at this
                exact this
            have hc := callA_sound hG hE S hw hargs h
            unfold Oper.wp
            rw [hrun, Oper.upon_enter]
            refine hc.mono ?_
            rintro e w' ⟨v, d, st', fz', ρ', rfl, k1, k2, k3, k4, k5⟩
            exact hk v w' ⟨d, st', fz', ρ', k1, k2, k3, k4, k5⟩
        · cases h
      · cases h
    · cases h

end
end Go.Ab
namespace Go.Ab

/-- Nothing is written but in the blocks of 'T' (rows of cells); what is handed back meets 'A'. -/
def Only {α : Type} (T : Nat → Prop) (A : α → Prop) : Sem α → Prop
  | .pure a => A a
  | .load _ _ k => ∀ v, Only T A (k v)
  | .store _ a _ k => T a.block ∧ Only T A k
  | .new _ k => ∀ n, Only T A (k n)
  | .shape _ k => ∀ s, Only T A (k s)
  | .freeze _ _ _ => False
  | .frozen _ k => ∀ b, Only T A (k b)
  | .getObj _ k => ∀ o, Only T A (k o)
  | .setObj _ _ _ => False
  | .choose _ k => ∀ n, Only T A (k n)
  | .sys _ _ => False
  | .program k => ∀ p, Only T A (k p)
  | .mark _ k => Only T A k
  | .halt _ => True

theorem Only.bind {α β : Type} {T : Nat → Prop} {A : α → Prop} {B : β → Prop} {f : α → Sem β} : ∀ {s : Sem α}, Only T A s → (∀ a, A a → Only T B (f a)) → Only T B (s >>= f)
  | .pure a, h, k => k a h
  | .load _ _ g, h, k => fun v => Only.bind (s := g v) (h v) k
  | .store _ _ _ g, h, k => ⟨h.1, Only.bind (s := g) h.2 k⟩
  | .new _ g, h, k => fun v => Only.bind (s := g v) (h v) k
  | .shape _ g, h, k => fun v => Only.bind (s := g v) (h v) k
  | .freeze _ _ _, h, _ => h.elim
  | .frozen _ g, h, k => fun v => Only.bind (s := g v) (h v) k
  | .getObj _ g, h, k => fun v => Only.bind (s := g v) (h v) k
  | .setObj _ _ _, h, _ => h.elim
  | .choose _ g, h, k => fun v => Only.bind (s := g v) (h v) k
  | .sys _ _, h, _ => h.elim
  | .program g, h, k => fun v => Only.bind (s := g v) (h v) k
  | .mark _ g, h, k => Only.bind (s := g) h k
  | .halt _, _, _ => trivial
theorem Only.mono {α : Type} {T : Nat → Prop} {A B : α → Prop} {s : Sem α} (h : Only T A s) (k : ∀ a, A a → B a) : Only T B s := by
  have := Only.bind (f := fun a => (pure a : Sem α)) h (B := B) k
  have e : ∀ s : Sem α, s.bind (fun a => .pure a) = s := by
    intro s
    induction s <;> simp_all [Sem.bind]
    rename_i h
    funext b
    cases b
    · exact h.1
    · exact h.2
  have e' : (s >>= fun a => (pure a : Sem α)) = s := e s
  rwa [e'] at this

/-- The blocks of 'T' are rows of cells. -/
def Rowed (T : Nat → Prop) (w : World) : Prop := ∀ g, T g → ∃ us t m, w.heap[g]? = some (.cells us t m)
/-- The old blocks but for those of 'T'. -/
def Kept (T : Nat → Prop) (w w' : World) : Prop := w.heap.size ≤ w'.heap.size ∧ (∀ k, k < w.heap.size → ¬ T k → w'.heap[k]? = w.heap[k]?) ∧ Rowed T w'
theorem Kept.trans {T : Nat → Prop} {a b c : World} (h : Kept T a b) (k : Kept T b c) : Kept T a c :=
  ⟨Nat.le_trans h.1 k.1, fun i hi hn => (k.2.1 i (Nat.lt_of_lt_of_le hi h.1) hn).trans (h.2.1 i hi hn), k.2.2⟩

theorem rowed_set {T : Nat → Prop} {w : World} (h : Rowed T w) (a : Addr) (v : Value) : Rowed T (w.setCell a v) := by
  intro g hg
  obtain ⟨us, t, m, e⟩ := h g hg
  simp only [World.setCell, Array.getElem?_modify]
  split
  · rw [e]; exact ⟨_, _, _, rfl⟩
  · rw [e]; exact ⟨_, _, _, rfl⟩

theorem Only.run {α : Type} {T : Nat → Prop} {A : α → Prop} {P : Program} : ∀ {s : Sem α} {w w' : World} {x : α}, Only T A s → Rowed T w → s.run P w = .ok x w' → A x ∧ Kept T w w'
  | .pure a, w, w', x, h, hT, e => by
    simp only [Sem.run, Result.ok.injEq] at e
    obtain ⟨rfl, rfl⟩ := e
    exact ⟨h, Nat.le_refl _, fun _ _ _ => rfl, hT⟩
  | .load m a g, w, w', x, h, hT, e => by
    simp only [Sem.run] at e
    split at e
    · exact Only.run (h _) hT e
    · split at e
      · exact Only.run (h _) hT e
      · cases e
  | .store m a v g, w, w', x, h, hT, e => by
    have key : ∀ v', g.run P (w.setCell a v') = .ok x w' → A x ∧ Kept T w w' := by
      intro v' e
      obtain ⟨k1, k2⟩ := Only.run h.2 (rowed_set hT a v') e
      refine ⟨k1, Kept.trans ⟨by simp [World.setCell], fun k hk hn => ?_, rowed_set hT a v'⟩ k2⟩
      simp only [World.setCell, Array.getElem?_modify]
      rw [if_neg]
      intro e'
      exact hn (e' ▸ h.1)
    have far : ∀ v' (m' : Bool), (match w.farStore P a v' m' with | .ok (w1, _) => g.run P w1 | .error h => .halt h w) = .ok x w' → A x ∧ Kept T w w' := by
      intro v' m' e
      obtain ⟨us, t, q, hb⟩ := hT _ h.1
      simp only [World.farStore, hb] at e
      cases e
    cases v <;> simp only [Sem.run] at e <;> first
      | cases e; done
      | (split at e
         · split at e
           · cases e
           · exact key _ e
         · exact far _ _ e)
  | .new o g, w, w', x, h, hT, e => by
    simp only [Sem.run] at e
    have hT' : Rowed T { w with heap := w.heap.push o } := by
      intro k hk
      obtain ⟨us, t, m, hb⟩ := hT k hk
      exact ⟨us, t, m, by
        have hl := (Array.getElem?_eq_some_iff.1 hb).1
        show (w.heap.push o)[k]? = _
        rw [Array.getElem?_push_lt hl, ← Array.getElem?_eq_getElem hl]; exact hb⟩
    obtain ⟨k1, k2⟩ := Only.run (h _) hT' e
    refine ⟨k1, Kept.trans ⟨by simp, fun k hk _ => ?_, hT'⟩ k2⟩
    show (w.heap.push o)[k]? = _
    rw [Array.getElem?_push_lt hk, ← Array.getElem?_eq_getElem hk]
  | .shape _ g, w, w', x, h, hT, e => Only.run (s := g _) (h _) hT e
  | .freeze _ _ _, _, _, _, h, _, _ => h.elim
  | .frozen _ g, w, w', x, h, hT, e => Only.run (s := g _) (h _) hT e
  | .getObj r g, w, w', x, h, hT, e => by
    simp only [Sem.run] at e
    split at e
    · cases e
    · exact Only.run (h _) hT e
    · cases e
  | .setObj _ _ _, _, _, _, h, _, _ => h.elim
  | .choose q g, w, w', x, h, hT, e => by
    simp only [Sem.run] at e
    split at e
    · exact Only.run (h _) hT e
    · exact Only.run (w := { w with drawn := w.drawn + 1 }) (h _) hT e
  | .sys _ _, _, _, _, h, _, _ => h.elim
  | .program g, w, w', x, h, hT, e => Only.run (s := g _) (h _) hT e
  | .mark _ g, w, w', x, h, hT, e => Only.run (s := g) h hT e
  | .halt _, _, _, _, _, _, e => by simp [Sem.run] at e

/-- A value, or nothing. -/
def Tame (n : Next) : Prop := (∃ v, n = .value v) ∨ n = .skip
abbrev TT {α : Type} (_ : α) : Prop := True

section
variable {T : Nat → Prop}
theorem only_pure {α : Type} {A : α → Prop} {a : α} (h : A a) : Only T A (pure a : Sem α) := h
theorem only_stuck {α : Type} {A : α → Prop} (s : String) : Only T A (stuck s : Sem α) := trivial
theorem only_unsup {α : Type} {A : α → Prop} (s : Unsupported) : Only T A (unsupported s : Sem α) := trivial
theorem only_v {s : Sem Value} (h : Only T TT s) : Only T Tame (do pure (Next.value (← s)) : Sem Next) := h.bind fun v _ => .inl ⟨v, rfl⟩
theorem only_u {s : Sem Unit} (h : Only T TT s) : Only T Tame (do s; pure Next.skip : Sem Next) := h.bind fun v _ => .inr rfl
theorem only_program : Only T TT program := fun _ => trivial
theorem only_typeInfo (t : TypeId) : Only T TT (typeInfo t) := Only.bind only_program fun p _ => by
  split
  · trivial
  · trivial
theorem only_underlying (t : TypeId) : Only T TT (underlying t) := Only.bind only_program fun p _ => by
  split
  · trivial
  · trivial
theorem only_zero (t : TypeId) : Only T TT (zeroValue t) := Only.bind (only_typeInfo t) fun p _ => by
  split
  · trivial
  · trivial
theorem only_sizeOf (t : TypeId) : Only T TT (sizeOf t) := Only.bind (only_typeInfo t) fun p _ => trivial
theorem only_isAgg (t : TypeId) : Only T TT (isAgg t) := Only.bind (only_underlying t) fun p _ => by
  split
  · trivial
  · trivial
  · trivial
theorem only_newRow (t : TypeId) (cs : Array Value) : Only T TT (newRow t cs) := Only.bind (A := TT) (show Only T TT (newObj _) from fun _ => trivial) fun p _ => trivial
theorem only_loadCells (ad : Addr) : ∀ (n i : Nat) (acc : Array Value), Only T TT (loadCellsFrom ad i n acc)
  | 0, _, _ => trivial
  | n + 1, i, acc => Only.bind (A := TT) (show Only T TT (load _) from fun _ => trivial) fun v _ => only_loadCells ad n (i + 1) _
theorem only_loadVar (t : TypeId) (ad : Addr) : Only T TT (loadVar t ad) := by
  unfold loadVar
  refine Only.bind (only_isAgg t) fun b _ => ?_
  split
  · exact Only.bind (only_sizeOf t) fun n _ => Only.bind (only_loadCells ad n 0 #[]) fun _ _ => trivial
  · exact fun _ => trivial
theorem only_sureAddr (v : Value) : Only T (fun ad => v = .pointer (some ad)) (Instr.sureAddr v) := by
  unfold Instr.sureAddr
  split
  · exact rfl
  · trivial
theorem only_loadAt (t : TypeId) (v : Value) : Only T TT (Instr.loadAt t v) := Only.bind (only_sureAddr v) fun ad _ => only_loadVar t ad
theorem only_storeCells (ad : Addr) (h : T ad.block) : ∀ (vs : List Value) (i : Nat), Only T TT (storeCells ad vs i)
  | [], _ => trivial
  | v :: vs, i => by
    unfold storeCells
    refine Only.bind (A := TT) (show Only T TT (store _ _) from ⟨?_, trivial⟩) fun _ _ => only_storeCells ad h vs (i + 1)
    show T (ad.add i).block
    have : (ad.add i).block = ad.block := by unfold Addr.add; split <;> rfl
    rw [this]; exact h
theorem only_storeAt (t : TypeId) (v u : Value) (h : ∀ ad, v = .pointer (some ad) → T ad.block) : Only T TT (Instr.storeAt t v u) := by
  refine Only.bind (only_sureAddr v) fun ad e => ?_
  unfold storeVar
  refine Only.bind (only_sizeOf t) fun n _ => ?_
  split
  · trivial
  · exact only_storeCells ad (h ad e) _ 0
theorem only_alloc (t : TypeId) : Only T TT (Instr.alloc t true (.tuple #[])) := by
  unfold Instr.alloc
  exact Only.bind (only_zero t) fun z _ => Only.bind (only_newRow t _) fun _ _ => trivial
theorem only_box (t : TypeId) (v : Value) : Only T TT (Instr.box t v) := by
  unfold Instr.box
  exact Only.bind (only_newRow t _) fun _ _ => trivial
theorem only_buildSlice (t : TypeId) (n : Nat) (ps : Array (Nat × Value)) : Only T TT (Instr.buildSlice t n ps) := by
  unfold Instr.buildSlice
  refine Only.bind (only_underlying t) fun d _ => ?_
  split
  · rename_i elem _
    refine Only.bind (only_sizeOf _) fun sz _ => ?_
    have rest : ∀ zero : Array Value, Only T TT (do
        let some cells := Instr.fill (fun i => some (i * sz, sz)) ((Array.range (n * sz)).map (zero[· % zero.size]!)) ps.toList | stuck "buildSlice: a part of the wrong size"
        pure (Value.slice (some (← newRow elem cells)) n n) : Sem Value) := by
      intro zero
      split
      · exact Only.bind (only_newRow _ _) fun _ _ => trivial
      · trivial
    dsimp only
    split
    · exact trivial
    · split
      · exact rest #[]
      · exact Only.bind (only_zero _) fun z _ => rest _
  · trivial
end
end Go.Ab
namespace Go.Ab

section
variable {T : Nat → Prop}
theorem only_len (ts : Array TypeId) (t : TypeId) (args : Array Value) : Only T TT (Builtin.len_ ts t args) := by
  unfold Builtin.len_
  split
  · refine Only.bind (only_underlying _) fun d _ => ?_
    split <;> first
      | trivial
      | (refine Only.bind (only_underlying _) fun d _ => ?_
         split <;> trivial)
      | (refine Only.bind (A := TT) (show Only T TT (getObj _) from fun _ => trivial) fun d _ => ?_
         split <;> trivial)
  · trivial
theorem only_intCmp (op : BinOp) (x y : Int) : Only T TT (Op.intCmp op x y) := by
  unfold Op.intCmp
  split <;> trivial
theorem only_cmp {op : BinOp} (hop : op = .lss ∨ op = .leq ∨ op = .gtr ∨ op = .geq) (t : TypeId) (x : Value) (k : IntKind) (n : Int) : Only T TT (binOp op t x (.int k n)) := by
  rcases hop with rfl | rfl | rfl | rfl <;> cases x <;> simp only [binOp] <;> first
    | trivial
    | (split <;> first | trivial | exact only_intCmp _ _ _)
theorem only_goPanic {α : Type} (v : Value) : Only T TT (goPanic v : Sem α) := trivial
theorem only_boundsPanic {α : Type} (k : IntKind) (x y : Int) (c : BoundsCode) : Only T TT (boundsPanic k x y c : Sem α) := by
  have hj : ∀ s : Bool, Only T TT (runtimePanic (.bounds (IntKind.i64.wrap x) y s c) : Sem α) := fun s => by
    unfold runtimePanic
    exact Only.bind only_program fun p _ => trivial
  unfold boundsPanic
  dsimp only
  split
  · refine Only.bind (A := TT) (fun n => trivial) fun s _ => hj s
  · exact Only.bind (A := TT) trivial fun s _ => hj s
theorem only_asIntOf (v : Value) : Only T TT (asIntOf v) := by
  unfold asIntOf
  split <;> trivial
theorem Only.ite' {α : Type} {A : α → Prop} {c : Prop} [Decidable c] {s t : Sem α} (h1 : Only T A s) (h2 : Only T A t) : Only T A (if c then s else t) := by
  split
  · exact h1
  · exact h2
theorem only_indexAt (t : TypeId) (x ix : Value) : Only T TT (Instr.indexAt t x ix) := by
  unfold Instr.indexAt
  refine Only.bind (only_asIntOf ix) fun q _ => ?_
  refine Only.bind (only_underlying t) fun u _ => ?_
  dsimp only
  split
  · refine Only.bind (only_sureAddr _) fun ad _ => Only.bind (A := TT) trivial fun z _ => ?_
    refine Only.bind (only_underlying t) fun u' _ => ?_
    split
    · split
      · exact Only.bind (only_sizeOf _) fun _ _ => trivial
      · exact Only.ite' trivial (only_boundsPanic _ _ _ _)
    · exact only_boundsPanic _ _ _ _
  · refine Only.bind (A := TT) trivial fun z _ => ?_
    refine Only.bind (only_underlying t) fun u' _ => ?_
    split
    · split
      · exact Only.bind (only_sizeOf _) fun _ _ => trivial
      · exact Only.ite' trivial (only_boundsPanic _ _ _ _)
    · exact only_boundsPanic _ _ _ _
  · trivial
theorem only_eq0 {t : TypeId} {x : Value} {k : IntKind} {n : Int} (d : Nat) : Only T TT (Op.equalIn (d + 1) t x (.int k n)) := by
  unfold Op.equalIn
  refine Only.bind (only_underlying t) fun u _ => ?_
  cases u <;> cases x <;> first
    | trivial
    | (dsimp only; split <;> trivial)
    | (rename_i q; cases q <;> (dsimp only; split <;> trivial))
    | (rename_i q; cases q <;> trivial)
theorem only_eqk {op : BinOp} (hop : op = .eql ∨ op = .neq) (t : TypeId) (x : Value) (k : IntKind) (n : Int) : Only T TT (binOp op t x (.int k n)) := by
  have he : ∀ x, Only T TT (Op.equal t x (.int k n)) := fun x => only_eq0 9999
  rcases hop with rfl | rfl <;> cases x <;> simp only [binOp] <;> first
    | exact Only.bind (he _) fun _ _ => trivial
    | (split <;> first | trivial | exact only_intCmp _ _ _)
theorem only_eqGuard {op : BinOp} (t : TypeId) (x y : Operand) (v : Value) (k : IntKind) (n : Int) : Only T TT (eqGuard op t x y v (.int k n)) := by
  have h : ∀ c : Bool, Only T TT (if (!c) = true then pure () else (pure () : Sem Unit)) := fun c => by cases c <;> trivial
  unfold eqGuard
  cases v <;> exact h _
theorem only_noView (a : Addr) : Only T TT (noView a) := by
  unfold noView
  refine Only.bind (A := TT) ?_ fun o _ => Only.ite' trivial trivial
  unfold viewAt
  refine Only.bind (A := TT) (show Only T TT (shape _) from fun _ => trivial) fun d _ => Only.ite' trivial ?_
  refine Only.bind (A := TT) (show Only T TT (getObj _) from fun _ => trivial) fun d _ => ?_
  split <;> trivial
theorem only_byteOf (a : Addr) : Only T TT (byteOf a) := by
  unfold byteOf
  dsimp only
  split
  · trivial
  · refine Only.bind only_program fun p _ => Only.bind (only_noView a) fun _ _ => ?_
    refine Only.bind (A := TT) (show Only T TT (shape _) from fun _ => trivial) fun d _ => ?_
    split
    · exact Only.ite' trivial (by split <;> trivial)
    · trivial
theorem only_fieldPlace (a : Addr) (f : Field) : Only T TT (fieldPlace a f) := by
  unfold fieldPlace
  refine Only.bind (only_sizeOf _) fun n _ => Only.ite' ?_ trivial
  unfold partAt
  exact Only.bind (only_byteOf _) fun b _ => Only.bind (only_byteOf _) fun b' _ => trivial
theorem only_fieldAt (t : TypeId) (x : Value) (f : Nat) : Only T TT (Instr.fieldAt t x f) := by
  unfold Instr.fieldAt
  refine Only.bind (only_underlying t) fun u _ => ?_
  split
  · split
    · exact Only.bind (only_sureAddr _) fun ad _ => Only.bind (only_fieldPlace _ _) fun _ _ => trivial
    · trivial
  · trivial
theorem only_leaves {o : Oper} (h : leaves o.op = true) (a : Act) : Only T Tame (execOp a.eval o) := by
  obtain ⟨dst, op, ty, pos, after, guard⟩ := o
  cases op <;> simp only [leaves, Bool.false_eq_true] at h <;> simp only [execOp]
  case move x => exact .inl ⟨_, rfl⟩
  case assign x => exact .inl ⟨_, rfl⟩
  case load t x => exact only_v (only_loadAt _ _)
  case alloc t => exact only_v (only_alloc _)
  case box t x => exact only_v (only_box _ _)
  case indexAddr t x i => exact only_v (only_indexAt _ _ _)
  case fieldAddr t x i => exact only_v (only_fieldAt _ _ _)
  case buildSlice t n ps => exact only_v (only_buildSlice _ _ _)
  case binOp op t x y _ =>
    simp only [Bool.and_eq_true] at h
    have hop : (op = .lss ∨ op = .leq ∨ op = .gtr ∨ op = .geq) ∨ (op = .eql ∨ op = .neq) := by
      have := h.1
      cases op <;> simp [cmpOp] at this ⊢
    obtain ⟨k, n, rfl⟩ : ∃ k n, y = .const (.int k n) := by
      have := h.2
      unfold constInt at this
      split at this
      · exact ⟨_, _, rfl⟩
      · cases this
    refine only_v (Only.bind (A := TT) (only_eqGuard _ _ _ _ _ _) fun _ _ => ?_)
    rcases hop with hop | hop
    · exact only_cmp hop _ _ _ _
    · exact only_eqk hop _ _ _ _
  case call c =>
    cases hc : c.callee <;> simp only [hc, Bool.false_eq_true] at h
    rename_i b
    cases b <;> simp only [Bool.false_eq_true] at h
    simp only [resolve, hc]
    exact only_v (only_len _ _ _)

/-- It reads block 'g' alone, and writes nothing. -/
def Local {α : Type} (g : Nat) : Sem α → Prop
  | .pure _ => True
  | .load _ a k => a.block = g ∧ ∀ v, Local g (k v)
  | .program k => ∀ p, Local g (k p)
  | .halt _ => True
  | _ => False
theorem Local.bind {α β : Type} {g : Nat} {f : α → Sem β} : ∀ {s : Sem α}, Local g s → (∀ a, Local g (f a)) → Local g (s >>= f)
  | .pure a, h, k => k a
  | .load _ _ q, h, k => ⟨h.1, fun v => Local.bind (s := q v) (h.2 v) k⟩
  | .store _ _ _ _, h, _ => h.elim
  | .new _ _, h, _ => h.elim
  | .shape _ _, h, _ => h.elim
  | .freeze _ _ _, h, _ => h.elim
  | .frozen _ _, h, _ => h.elim
  | .getObj _ _, h, _ => h.elim
  | .setObj _ _ _, h, _ => h.elim
  | .choose _ _, h, _ => h.elim
  | .sys _ _, h, _ => h.elim
  | .program q, h, k => fun v => Local.bind (s := q v) (h v) k
  | .mark _ _, h, _ => h.elim
  | .halt _, _, _ => trivial
theorem Local.run {α : Type} {g : Nat} {P : Program} {us : Array Value} {t : TypeId} {m : Nat × Nat} : ∀ {s : Sem α} {w w1 w' : World} {x : α}, Local g s → w.heap[g]? = some (.cells us t m) → w'.heap[g]? = some (.cells us t m) →
    s.run P w = .ok x w1 → s.run P w' = .ok x w'
  | .pure a, w, w1, w', x, h, h1, h2, e => by
    simp only [Sem.run, Result.ok.injEq] at e ⊢
    exact ⟨e.1, trivial⟩
  | .load q ad k, w, w1, w', x, h, h1, h2, e => by
    have hb := h.1
    simp only [Sem.run] at e ⊢
    rw [← World.cell?_of_block (w := w') (w' := w) (a := ad) (by rw [hb, h1, h2])]
    cases hc : w.cell? ad with
    | some v =>
      rw [hc] at e
      exact Local.run (h.2 v) h1 h2 e
    | none =>
      rw [hc] at e
      simp only [World.farLoad, hb, h1] at e
      cases e
  | .program q, w, w1, w', x, h, h1, h2, e => Local.run (s := q P) (h P) h1 h2 e
  | .halt _, _, _, _, _, _, _, _, e => by simp [Sem.run] at e
  | .store _ _ _ _, _, _, _, _, h, _, _, _ => h.elim
  | .new _ _, _, _, _, _, h, _, _, _ => h.elim
  | .shape _ _, _, _, _, _, h, _, _, _ => h.elim
  | .freeze _ _ _, _, _, _, _, h, _, _, _ => h.elim
  | .frozen _ _, _, _, _, _, h, _, _, _ => h.elim
  | .getObj _ _, _, _, _, _, h, _, _, _ => h.elim
  | .setObj _ _ _, _, _, _, _, h, _, _, _ => h.elim
  | .choose _ _, _, _, _, _, h, _, _, _ => h.elim
  | .sys _ _, _, _, _, _, h, _, _, _ => h.elim
  | .mark _ _, _, _, _, _, h, _, _, _ => h.elim
theorem local_isAgg {g : Nat} (t : TypeId) : Local g (isAgg t) := by
  unfold isAgg underlying
  refine Local.bind (Local.bind (fun _ => trivial) fun p => ?_) fun d => ?_
  · split <;> trivial
  · split <;> trivial
theorem local_sizeOf {g : Nat} (t : TypeId) : Local g (sizeOf t) := by
  unfold sizeOf typeInfo
  refine Local.bind (Local.bind (fun _ => trivial) fun p => ?_) fun d => trivial
  split <;> trivial
theorem add_block (ad : Addr) (i : Nat) : (ad.add i).block = ad.block := by unfold Addr.add; split <;> rfl
theorem local_loadCells (ad : Addr) : ∀ (n i : Nat) (acc : Array Value), Local ad.block (loadCellsFrom ad i n acc)
  | 0, _, _ => trivial
  | n + 1, i, acc => Local.bind (show Local _ (load _) from ⟨add_block ad i, fun _ => trivial⟩) fun v => local_loadCells ad n (i + 1) _
theorem local_loadAt (t : TypeId) (ad : Addr) : Local ad.block (Instr.loadAt t (.pointer (some ad))) := by
  show Local _ (loadVar t ad)
  unfold loadVar
  refine Local.bind (local_isAgg t) fun b => ?_
  split
  · exact Local.bind (local_sizeOf t) fun n => Local.bind (local_loadCells ad n 0 #[]) fun _ => trivial
  · exact ⟨rfl, fun _ => trivial⟩
end
end Go.Ab
namespace Go.Ab
section
variable {P : Program} {ops : Array Oper} {Q : Exit → Act → World → Prop}

theorem waiters_mem {listed : Array Bool} {i j : Nat} : ∀ {n : Nat}, j ∈ waiters ops listed i n → j ≠ i ∧ listed.getD j true = false ∧ ∃ m, m < n ∧ ∃ o, ops[j]? = some o ∧ ∃ e ∈ o.after, Region.binds .any e = true ∧ (e.on = i ∨ e.on ∈ waiters ops listed i m)
  | 0, h => by simp [waiters] at h
  | n + 1, h => by
    simp only [waiters, List.mem_filter, List.mem_range, Bool.and_eq_true, bne_iff_ne, Bool.not_eq_true'] at h
    obtain ⟨_, h1, h2, h3⟩ := h
    refine ⟨h1, h2, n, Nat.lt_succ_self _, ?_⟩
    split at h3
    · rename_i o ho
      obtain ⟨e, he, hb⟩ := Array.any_eq_true'.1 h3
      simp only [Bool.and_eq_true, Bool.or_eq_true, beq_iff_eq, List.contains_iff_mem] at hb
      exact ⟨o, ho, e, he, hb⟩
    · cases h3

theorem hoist {S : World → Prop} {G : Act → Prop} {i : Nat} {oi : Oper} {v : Value} {listed0 : Array Bool} {N : Nat} (hi : ops[i]? = some oi)
    (hsel : ∀ (j : Nat) (o : Oper) cs b, ops[j]? = some o → o.op ≠ .select cs b)
    (hQ : ∀ c a w, Q (.panic c) (a.put oi.dst v) w → Q (.panic c) a w)
    (hG : ∀ a, G (a.put oi.dst v) ↔ G a)
    (hoth : ∀ j oj, ops[j]? = some oj → j ≠ i → listed0.getD j true = false → j ∉ waiters ops listed0 i N → oi.apart ops oj = true ∧
      ∀ (a : Act) (w : World) (K : Act → World → Prop), S w → G a → wpOp P ops Q j K a w → wpOp P ops Q j (fun a' w' => (S w' ∧ G a') ∧ K a' w') a w) :
    ∀ (fuel : Nat) (listed : Array Bool) (a : Act) (w : World), (∀ j, listed.getD j true = false → listed0.getD j true = false) → (∀ n ≤ N, ∀ j ∈ waiters ops listed0 i n, listed.getD j true = false) →
      i ∈ Region.ready .any ops listed → YieldsIf P ops S oi v a → S w → G a →
      wpAny P .any ops Q fuel (listed.setIfInBounds i true) (a.put oi.dst v) w → wpAny P .any ops Q (fuel + 1) listed a w := by
  intro fuel
  induction fuel with
  | zero =>
    intro listed a w hl hW hr hy hS hGa H
    refine ⟨fun h => (by rw [h] at hr; cases hr), fun j hj => ?_⟩
    by_cases hji : j = i
    · subst hji; exact hy.wpOp hi hS H
    · have := ready_mono hj hji
      rw [H.1] at this
      cases this
  | succ fuel ih =>
    intro listed a w hl hW hr hy hS hGa H
    refine ⟨fun h => (by rw [h] at hr; cases hr), fun j hj => ?_⟩
    by_cases hji : j = i
    · subst hji; exact hy.wpOp hi hS H
    · have h1 := H.2 j (ready_mono hj hji)
      obtain ⟨hjun, oj, hoj, hall⟩ := mem_ready.1 hj
      have hiun := (mem_ready.1 hr).1
      have unl : ∀ k, listed.getD k true = false → listed.getD k false = true → False := by
        intro k h0 h1
        rcases Nat.lt_or_ge k listed.size with h' | h'
        · simp [h'] at h0 h1; rw [h0] at h1; cases h1
        · simp [Array.getElem?_eq_none h'] at h1
      have hnw : ∀ n ≤ N, j ∉ waiters ops listed0 i n := by
        intro n hn hm
        obtain ⟨_, _, m, hmn, o, ho, e, he, hb, hor⟩ := waiters_mem hm
        rw [hoj] at ho; cases ho
        have hli := hall e he hb
        rcases hor with rfl | hor
        · exact unl _ hiun hli
        · exact unl _ (hW m (by omega) _ hor) hli
      obtain ⟨hap, hkeep⟩ := hoth j oj hoj hji (hl j hjun) (hnw N (Nat.le_refl _))
      have h2 := hkeep _ _ _ hS ((hG a).2 hGa) h1
      have h3 := wpOp_putIf hoj hap (fun cs b => hsel i oi cs b hi) (fun cs b => hsel j oj cs b hoj) hQ hy h2
      refine wpOp_mono (fun a' w' h4 => ?_) h3
      obtain ⟨h5, ⟨h6, h7⟩, h8⟩ := h4
      refine ih (listed.setIfInBounds j true) a' w' (fun k hk => ?_) (fun n hn k hk => ?_) (ready_mono hr (Ne.symm hji)) h5 h6 ((hG a').1 h7) ?_
      · by_cases hjk : j = k
        · subst hjk; exact hl _ hjun
        · rw [getD_set_ne true hjk] at hk; exact hl k hk
      · have hjk : j ≠ k := fun e => hnw n hn (e ▸ hk)
        rw [getD_set_ne true hjk]; exact hW n hn k hk
      · rw [Array.setIfInBounds_comm _ _ hji]; exact h8

/-- An operation that writes nothing but in the blocks of 'T'. -/
theorem wpOp_only {T : Nat → Prop} {j : Nat} {oj : Oper} (hj : ops[j]? = some oj) {K : Act → World → Prop} {a : Act} {w : World} (h : Only T Tame (execOp a.eval oj)) (hT : Rowed T w) (hk : wpOp P ops Q j K a w) :
    wpOp P ops Q j (fun a' w' => Kept T w w' ∧ (∃ u, a' = a.put oj.dst u) ∧ K a' w') a w := by
  unfold wpOp at *
  simp only [hj] at *
  split
  · rename_i hw
    simp only [hw, if_true] at hk
    refine hk.imp (fun hk => ?_) id
    unfold Oper.wp at *
    cases hr : (execOp a.eval oj).run P w with
    | ok n w' =>
      obtain ⟨h1, h2⟩ := Only.run h hT hr
      rw [hr] at hk
      rcases h1 with ⟨v, rfl⟩ | rfl
      · exact ⟨h2, ⟨v, rfl⟩, hk⟩
      · exact ⟨h2, ⟨undef, rfl⟩, hk⟩
    | halt x w' =>
      rw [hr] at hk
      cases x <;> simp only [Oper.upon] at hk ⊢ <;> exact hk
  · rename_i hw
    simp only [hw] at hk
    exact ⟨⟨Nat.le_refl _, fun _ _ _ => rfl, hT⟩, ⟨undef, rfl⟩, hk⟩

end
end Go.Ab
namespace Go.Ab
section
variable {C : Cfg} {w w' : World} {fz fz' : Fz} {ρ ρ' : Rho} {Wr : Nat → Prop} {a : Act} {st : St} {ops : Array Oper}

theorem Sim.setSame (S : Sim C.P w fz ρ Wr a st) {t : Nat} {d : D} (h : st.tm.getD t (.lf .any) = d) (hd : d ≠ .lf .any) : Sim C.P w fz ρ Wr a { st with tm := st.tm.set t d } ∧ ∃ v, a.tmps[t]? = some v ∧ RepD (Rep C.P w fz ρ) v d := by
  have ht : st.tm[t]? = some d := by
    cases e : st.tm[t]? with
    | none => simp [List.getD, e] at h; exact absurd h.symm hd
    | some x => simp [List.getD, e] at h; rw [h]
  obtain ⟨v, h1, h2⟩ := S.tm.get _ t d ht
  refine ⟨⟨?_, S.hp⟩, v, by simpa using h1, h2⟩
  have : a.tmps.toList = a.tmps.toList.set t v := by
    refine List.ext_getElem? fun i => ?_
    rw [List.getElem?_set]
    split
    · rename_i e; subst e
      split
      · exact h1
      · rename_i hn; rw [List.getElem?_eq_none (Nat.le_of_not_lt hn)]
    · rfl
  rw [this]
  exact S.tm.set _ t h2

theorem guardA_sound {o : Oper} {yes no : St → R} {r : List L} (S : Sim C.P w fz ρ Wr a st) (h : guardA ops.toList o st yes no = some r) :
    (Region.wanted o (yielded ops a.tmps) = true ∧ ∃ st1, yes st1 = some r ∧ Sim C.P w fz ρ Wr a st1 ∧ st1.hp = st.hp) ∨
    (Region.wanted o (yielded ops a.tmps) = false ∧ ∃ st1, no st1 = some r ∧ Sim C.P w fz ρ Wr a st1 ∧ st1.hp = st.hp) := by
  unfold guardA at h
  split at h
  · rename_i hg
    exact .inl ⟨by simp [Region.wanted, hg], st, h, S, rfl⟩
  · rename_i j want hg
    rw [Array.getElem?_toList] at h
    split at h
    · rename_i hd
      refine .inr ⟨?_, st, h, S, rfl⟩
      simp [Region.wanted, hg, yielded, hd]
    · rename_i t hd
      split at h
      · rename_i b hb
        obtain ⟨S1, v, hv, hr⟩ := S.setSame hb (by simp)
        have hv' : v = .bool b := rep_bool hr
        subst hv'
        have hy : yielded ops a.tmps j = some b := by simp [yielded, hd, hv]
        split at h
        · cases b
          · exact .inr ⟨by simp [Region.wanted, hg, hy], _, h, S1, rfl⟩
          · exact .inl ⟨by simp [Region.wanted, hg, hy], _, h, S1, rfl⟩
        · cases b
          · exact .inl ⟨by simp [Region.wanted, hg, hy], _, h, S1, rfl⟩
          · exact .inr ⟨by simp [Region.wanted, hg, hy], _, h, S1, rfl⟩
      · rename_i hb
        obtain ⟨S1, v, hv, hr⟩ := S.setSame hb (by simp)
        obtain ⟨vs, rfl, _⟩ := hr
        have hy : yielded ops a.tmps j = none := by simp [yielded, hd, hv]
        exact .inr ⟨by simp [Region.wanted, hg, hy], _, h, S, rfl⟩
      · cases h

/-- What holds further on. -/
def Good (C : Cfg) (w : World) (fz : Fz) (ρ : Rho) (Wr : Nat → Prop) (df : List Deferred) (κ : St → R) (r : List L) (a' : Act) (w' : World) : Prop :=
  ∃ st' fz' ρ', κ st' = some r ∧ Sim C.P w' fz' ρ' Wr a' st' ∧ Mv Wr w fz w' fz' ∧ RhoLe ρ ρ' ∧ a'.defers = df

theorem Act.put_df (a : Act) (dst : Option Tmp) (v : Value) : (a.put dst v).defers = a.defers := by cases dst <;> rfl

theorem wr_mono (hw : ∀ k, w.heap.size ≤ k → Wr k) (M : Mv Wr w fz w' fz') : ∀ k, w'.heap.size ≤ k → Wr k := fun k hk => hw k (Nat.le_trans M.size hk)

theorem Good.trans {df : List Deferred} {κ : St → R} {r : List L} {a' : Act} {w2 : World} (M : Mv Wr w fz w' fz') (L : RhoLe ρ ρ') (h : Good C w' fz' ρ' Wr df κ r a' w2) : Good C w fz ρ Wr df κ r a' w2 := by
  obtain ⟨st', f, q, h1, h2, h3, h4, h5⟩ := h
  exact ⟨st', f, q, h1, h2, M.trans h3, L.trans h4, h5⟩

theorem opW_sound {G : Req → R} (hG : EnterOk C G) (hE : ExtOk C) (hN : NoCount C.P) (S : Sim C.P w fz ρ Wr a st) (hw : ∀ k, w.heap.size ≤ k → Wr k) {i : Nat} {o : Oper} (hi : ops[i]? = some o) {κ : St → R} {r : List L}
    (h : opW C G ops.toList o st κ = some r) {K : Act → World → Prop} {Q : Exit → Act → World → Prop} (hk : ∀ a' w', Good C w fz ρ Wr a.defers κ r a' w' → K a' w') : wpOp C.P ops Q i K a w := by
  unfold wpOp
  simp only [hi]
  rcases guardA_sound S h with ⟨hy, st1, h1, S1, e1⟩ | ⟨hy, st1, h1, S1, e1⟩
  · simp only [hy, if_true]
    refine .inl (opA_sound hG hE hN S1 hw h1 fun v w' hA => ?_)
    obtain ⟨d, st', fz', ρ', k1, k2, k3, k4, k5⟩ := hA
    exact hk _ _ ⟨_, fz', ρ', k1, k3.putTmp o.dst k2, k4, k5, Act.put_df _ _ _⟩
  · simp only [hy, Bool.false_eq_true, if_false]
    exact hk _ _ ⟨_, fz, ρ, h1, S1.putTmp o.dst rep_undef, .refl _ _ _, .refl ρ, Act.put_df _ _ _⟩

theorem pureW_sound {o : Oper} {κ : St → R} {r : List L} (S : Sim C.P w fz ρ Wr a st) (h : pureW C ops.toList o st κ = some r) :
    ∃ v, YieldsIf C.P ops (fun w' => Loads o.op = true → ∀ k, k < w.heap.size → w'.heap[k]? = w.heap[k]?) o v a ∧ Good C w fz ρ Wr a.defers κ r (a.put o.dst v) w := by
  rcases guardA_sound S h with ⟨hy, st1, h1, S1, e1⟩ | ⟨hy, st1, h1, S1, e1⟩
  · split at h1
    · rename_i g d hp hpure
      obtain ⟨hg, h1⟩ := cond_some h1
      obtain ⟨v, fz', p1, p2, p3, p4, p5⟩ := pureA_sound S1 hpure hg
      exact ⟨v, .inl ⟨hy, p1⟩, _, fz', ρ, h1, (S1.fzmono p4.1 p3).putTmp o.dst p2, .of_fz p4, .refl ρ, Act.put_df _ _ _⟩
    · cases h1
  · exact ⟨undef, .inr ⟨hy, rfl⟩, _, fz, ρ, h1, S1.putTmp o.dst rep_undef, .refl _ _ _, .refl ρ, Act.put_df _ _ _⟩

theorem opsA_sound {G : Req → R} (hG : EnterOk C G) (hE : ExtOk C) (hN : NoCount C.P) {κ : St → R} {r : List L} {Q : Exit → Act → World → Prop} :
    ∀ (l : List Oper) (k : Nat) {w : World} {fz : Fz} {ρ : Rho} {a : Act} {st : St}, l = ops.toList.drop k → Sim C.P w fz ρ Wr a st → (∀ k, w.heap.size ≤ k → Wr k) → opsA C G ops.toList l st κ = some r →
      (∀ a' w', Good C w fz ρ Wr a.defers κ r a' w' → Q .normal a' w') → wpOps C.P ops Q (List.range' k l.length) a w
  | [], k, w, fz, ρ, a, st, _, S, hw, h, hk => hk _ _ ⟨st, fz, ρ, h, S, .refl _ _ _, .refl ρ, rfl⟩
  | o :: l, k, w, fz, ρ, a, st, hl, S, hw, h, hk => by
    have hi : ops[k]? = some o := by
      have : (ops.toList.drop k)[0]? = some o := by rw [← hl]; rfl
      simpa using this
    have hl' : l = ops.toList.drop (k + 1) := by
      have : (ops.toList.drop k).drop 1 = l := by rw [← hl]; rfl
      rw [← this, List.drop_drop]
    rw [List.length_cons, List.range'_succ, wpOps_cons]
    refine opW_sound hG hE hN S hw hi h fun a' w' hg => ?_
    obtain ⟨st', fz', ρ', k1, k2, k3, k4, k5⟩ := hg
    refine opsA_sound hG hE hN l (k + 1) hl' k2 (wr_mono hw k3) k1 fun a2 w2 hg2 => hk a2 w2 ?_
    rw [k5] at hg2
    exact hg2.trans k3 k4

end
end Go.Ab
namespace Go.Ab
section
variable {C : Cfg} {w w' : World} {fz fz' : Fz} {ρ ρ' : Rho} {Wr : Nat → Prop} {a : Act} {st : St} {ops : Array Oper}

theorem ahead_loads {o : Op} (h : ahead o = true) : Loads o = false := by
  cases o <;> simp [ahead] at h <;> rfl

theorem loadFirst_spec {listed : Array Bool} {i : Nat} (h : loadFirst ops listed st i = true) : ∃ oi t x, ops[i]? = some oi ∧ oi.op = .load t x ∧ (∀ b ob, st.leaf x = .ptr b ob → ∃ ks cs, st.hp.getD b .dead = .box ks cs) ∧
    ∀ j oj, ops[j]? = some oj → j ≠ i → listed.getD j true = false → j ∉ waiters ops listed i 5 → oi.apart ops oj = true ∧ (leaves oj.op = true ∨ ∃ b ob, st.leaf x = .ptr b ob ∧ storesElse ops listed st b oj.op = true) := by
  unfold loadFirst at h
  split at h
  case h_2 => cases h
  rename_i oi hi
  split at h
  case h_2 => cases h
  rename_i t x hop
  rw [Bool.and_eq_true] at h
  obtain ⟨h0, h⟩ := h
  refine ⟨oi, t, x, hi, hop, fun b ob hl => ?_, fun j oj hj hji hun hnw => ?_⟩
  · rw [hl] at h0
    simp only at h0
    split at h0
    · rename_i ks cs hb; exact ⟨ks, cs, hb⟩
    · cases h0
  simp only [List.all_eq_true, List.mem_range] at h
  have h1 := h j (Array.getElem?_eq_some_iff.1 hj).1
  have hc : (waiters ops listed i 5).contains j = false := by
    rw [Bool.eq_false_iff]; intro e; exact hnw (by simpa using e)
  have hji' : (j == i) = false := by simpa using hji
  simp only [hj, hji', hun, hc, Bool.false_or, Bool.and_eq_true, Bool.or_eq_true] at h1
  refine ⟨h1.1, h1.2.imp id fun h2 => ?_⟩
  split at h2
  · rename_i b ob hl
    exact ⟨b, ob, hl, h2⟩
  · cases h2

theorem storesElse_spec {listed : Array Bool} {b : Nat} {o : Op} (h : storesElse ops listed st b o = true) : ∃ t x y b' o' ks cs, o = .store t (.tmp x) y ∧ st.leaf (.tmp x) = .ptr b' o' ∧ b' ≠ b ∧ st.hp.getD b' .dead = .box ks cs ∧
    ∀ j oj, ops[j]? = some oj → listed.getD j true = false → oj.dst ≠ some x := by
  unfold storesElse at h
  split at h
  case h_2 => cases h
  rename_i t x y
  simp only [Bool.and_eq_true] at h
  obtain ⟨h1, h2⟩ := h
  split at h1
  case h_2 => cases h1
  rename_i b' o' hl
  simp only [Bool.and_eq_true, bne_iff_ne] at h1
  obtain ⟨h1, h3⟩ := h1
  split at h3
  case h_2 => cases h3
  rename_i ks cs hb
  refine ⟨t, x, y, b', o', ks, cs, rfl, hl, h1, hb, fun j oj hj hun => ?_⟩
  simp only [List.all_eq_true, List.mem_range] at h2
  have h4 := h2 j (Array.getElem?_eq_some_iff.1 hj).1
  simp only [hj, hun, Bool.false_or, bne_iff_ne] at h4
  exact h4

theorem put_get {t : Nat} {dst : Option Tmp} (h : dst ≠ some t) (v : Value) : (a.put dst v).tmps[t]? = a.tmps[t]? := by
  cases dst with
  | none => rfl
  | some d =>
    have : d ≠ t := fun e => h (e ▸ rfl)
    simp [Act.put, Array.getElem?_setIfInBounds_ne this]

theorem load_block {t : TypeId} {x : Operand} {o : Oper} {b ob : Nat} {g : Bool} {d : D} {hp : List B} (hop : o.op = .load t x) (hl : st.leaf x = .ptr b ob) (h : pureA C o st = some (g, d, hp)) : ∃ ks cs, st.hp.getD b .dead = .box ks cs := by
  unfold pureA at h
  simp only [hop, pLoad, hl] at h
  split at h
  case h_2 => cases h
  rename_i d' hd
  unfold loadA at hd
  dsimp only at hd
  split at hd
  case isFalse => cases hd
  split at hd
  · rename_i ks cs hb; exact ⟨ks, cs, hb⟩
  · cases hd

/-- A load that is taken first. -/
theorem load_take {i : Nat} {listed : Array Bool} {κ : St → R} {r : List L} {o : Oper} {Q : Exit → Act → World → Prop} {n : Nat} (S : Sim C.P w fz ρ Wr a st) (hs : Region.noSelect ops = true) (hi : ops[i]? = some o) (hlf : loadFirst ops listed st i = true)
    (hr : i ∈ Region.ready .any ops listed) (hQ : ∀ c a w, Q (.panic c) a w → False) (h : pureW C ops.toList o st κ = some r)
    (hk : ∀ a' , Good C w fz ρ Wr a.defers κ r a' w → wpAny C.P .any ops Q n (listed.setIfInBounds i true) a' w) : wpAny C.P .any ops Q (n + 1) listed a w := by
  obtain ⟨oi, t, x, hi', hop, hbox, hall⟩ := loadFirst_spec hlf
  rw [hi] at hi'; cases hi'
  obtain ⟨v, hy, hgood⟩ := pureW_sound S h
  have hiun := (mem_ready.1 hr).1
  let Tm : Nat → Prop := fun t' => ∀ j oj, ops[j]? = some oj → listed.getD j true = false → oj.dst ≠ some t'
  let T : Nat → Prop := fun g => ∃ x' b' o' b ob ad, Tm x' ∧ st.leaf (.tmp x') = .ptr b' o' ∧ st.leaf x = .ptr b ob ∧ b' ≠ b ∧ (∃ ks cs, st.hp.getD b' .dead = .box ks cs) ∧ ρ b' = some (.pointer (some ad)) ∧ g = ad.block
  have hT0 : Rowed T w := by
    rintro g ⟨x', b', o', b, ob, ad, _, _, _, _, ⟨ks, cs, hb⟩, hρ, rfl⟩
    have hB := S.hp.blk b'
    rw [hb] at hB
    obtain ⟨g', us, tt, e1, e2, _⟩ := hB
    rw [hρ] at e1; cases e1
    exact ⟨us, tt, _, e2⟩
  -- what it yields wherever the old blocks but those stored to stand
  have hy' : YieldsIf C.P ops (Kept T w) o v a := by
    rcases hy with ⟨hw, hrun⟩ | ⟨hw, rfl⟩
    case inr => exact .inr ⟨hw, rfl⟩
    refine .inl ⟨hw, fun w' hkept => ?_⟩
    by_cases hp : ∃ b ob, st.leaf x = .ptr b ob
    · obtain ⟨b, ob, hl⟩ := hp
      obtain ⟨ks, cs, hb⟩ := hbox b ob hl
      have hB := S.hp.blk b
      rw [hb] at hB
      obtain ⟨g, us, tt, e1, e2, _⟩ := hB
      have hx := S.leaf x
      rw [hl] at hx
      have hev : a.eval x = .pointer (some (Addr.add ⟨g, 0, none⟩ ob)) := by
        generalize a.eval x = vx at hx
        cases hx with
        | ptr _ _ ad h1 => rw [e1] at h1; cases h1; rfl
      have hng : ¬ T g := by
        rintro ⟨x', b', o', b2, ob2, ad, _, _, hl2, hne, ⟨ks', cs', hb'⟩, hρ, hg⟩
        rw [hl] at hl2; cases hl2
        exact S.hp.dis b' b _ _ g hne (by rw [hb']; simp) (by rw [hb]; simp) hρ e1 (by simp [bk, hg]) (by simp [bk])
      have hlt := (Array.getElem?_eq_some_iff.1 e2).1
      have hsame := hkept.2.1 g hlt hng
      have hrw := hrun w (fun _ _ _ => rfl)
      have hloc : Local g (execOp a.eval o) := by
        simp only [execOp, hop, hev]
        refine Local.bind (g := g) ?_ fun _ => trivial
        have := local_loadAt t (Addr.add ⟨g, 0, none⟩ ob)
        rw [add_block] at this
        exact this
      exact Local.run hloc e2 (hsame.trans e2) hrw
    · refine hrun w' fun _ k hkk => hkept.2.1 k hkk ?_
      rintro ⟨x', b', o', b, ob, ad, _, _, hl, _⟩
      exact hp ⟨b, ob, hl⟩
  refine hoist (S := Kept T w) (G := fun a' => ∀ t', Tm t' → a'.tmps[t']? = a.tmps[t']?) (N := 5) (listed0 := listed) hi (Region.noSelect_spec hs) (fun c a w hq => (hQ _ _ _ hq).elim) (fun a' => ?_) (fun j oj hj hji hun hnw => ?_) n listed a w (fun _ h => h)
    (fun m _ k hm => (waiters_mem hm).2.1) hr hy' ⟨Nat.le_refl _, fun _ _ _ => rfl, hT0⟩ (fun _ _ => rfl) (hk _ hgood)
  · have : ∀ t', Tm t' → (a'.put o.dst v).tmps[t']? = a'.tmps[t']? := fun t' ht => put_get (ht i o hi hiun) v
    exact ⟨fun hh t' ht => (this t' ht).symm.trans (hh t' ht), fun hh t' ht => (this t' ht).trans (hh t' ht)⟩
  · obtain ⟨hap, hor⟩ := hall j oj hj hji hun hnw
    refine ⟨hap, fun a1 w1 K hS1 hG1 hK => ?_⟩
    have honly : Only T Tame (execOp a1.eval oj) := by
      rcases hor with hlv | ⟨b, ob, hl, hst⟩
      · exact only_leaves hlv a1
      · obtain ⟨tt, x', y, b', o', ks, cs, hop', hl', hne, hb', hTm⟩ := storesElse_spec hst
        have hx := S.leaf (.tmp x')
        rw [hl'] at hx
        have hev : a1.eval (.tmp x') = a.eval (.tmp x') := by
          have := hG1 x' hTm
          simp [Act.eval, this]
        simp only [execOp, hop', hev]
        refine only_u (only_storeAt _ _ _ fun ad had => ?_)
        generalize a.eval (.tmp x') = vx at hx had
        subst had
        have : ∀ vx, Rep C.P w fz ρ vx (.ptr b' o') → ∀ ad, vx = .pointer (some ad) → ∃ ad0, ρ b' = some (.pointer (some ad0)) ∧ ad = ad0.add o' := by
          intro vx hx ad e
          cases hx with
          | ptr _ _ ad0 h1 => cases e; exact ⟨ad0, h1, rfl⟩
        obtain ⟨ad0, q1, rfl⟩ := this _ hx ad rfl
        exact ⟨x', b', o', b, ob, ad0, hTm, hl', hl, hne, ⟨ks, cs, hb'⟩, q1, add_block _ _⟩
    refine wpOp_mono (fun a2 w2 h2 => ?_) (wpOp_only hj honly hS1.2.2 hK)
    obtain ⟨k1, ⟨u, rfl⟩, k3⟩ := h2
    exact ⟨⟨hS1.trans k1, fun t' ht => (put_get (ht j oj hj hun) u).trans (hG1 t' ht)⟩, k3⟩

theorem bothL_all {r : List L} : ∀ {xs : List R}, bothL xs = some r → ∀ x ∈ xs, x = some r
  | [], h, x, hx => by cases hx
  | [a], h, x, hx => by
    rw [List.mem_singleton.1 hx]
    exact h
  | a :: b :: as, h, x, hx => by
    unfold bothL both at h
    split at h
    · rename_i e
      rcases List.mem_cons.1 hx with rfl | hx
      · exact h
      · exact bothL_all (e ▸ h) x hx
    · cases h
theorem both_self (a : R) : both a a = a := by unfold both; simp
theorem drawA_sound {G : Req → R} (hG : EnterOk C G) (hE : ExtOk C) (hN : NoCount C.P) (hs : Region.noSelect ops = true) {κ : St → R} {r : List L} {Q : Exit → Act → World → Prop} (hQ : ∀ c a w, Q (.panic c) a w → False) :
    ∀ (n : Nat) {listed : Array Bool} {w : World} {fz : Fz} {ρ : Rho} {a : Act} {st : St}, Sim C.P w fz ρ Wr a st → (∀ k, w.heap.size ≤ k → Wr k) → drawA C G ops n listed st κ = some r →
      (∀ a' w', Good C w fz ρ Wr a.defers κ r a' w' → Q .normal a' w') → wpAny C.P .any ops Q n listed a w
  | 0, listed, w, fz, ρ, a, st, S, hw, h, hk => by
    unfold drawA at h
    split at h
    · rename_i hr
      exact ⟨hr, hk _ _ ⟨st, fz, ρ, h, S, .refl _ _ _, .refl ρ, rfl⟩⟩
    · cases h
  | n + 1, listed, w, fz, ρ, a, st, S, hw, h, hk => by
    have step : ∀ (i : Nat) (a' : Act) (w' : World), Good C w fz ρ Wr a.defers (fun st' => drawA C G ops n (listed.setIfInBounds i true) st' κ) r a' w' → wpAny C.P .any ops Q n (listed.setIfInBounds i true) a' w' := by
      rintro i a' w' ⟨st', fz', ρ', k1, k2, k3, k4, k5⟩
      refine drawA_sound hG hE hN hs hQ n k2 (wr_mono hw k3) k1 fun a2 w2 hg2 => hk a2 w2 ?_
      rw [k5] at hg2
      exact hg2.trans k3 k4
    unfold drawA at h
    split at h
    · rename_i hr
      exact wpAny_done hr (hk _ _ ⟨st, fz, ρ, h, S, .refl _ _ _, .refl ρ, rfl⟩) _
    · rename_i r0 rs hr
      split at h
      · rename_i i hp
        split at h
        case h_2 => cases h
        rename_i o hi
        have hm := List.mem_of_find?_eq_some hp
        have hc := List.find?_some hp
        simp only [hi, Bool.and_eq_true] at hc
        obtain ⟨v, hy, hg⟩ := pureW_sound S h
        have hl := ahead_loads hc.1
        have hy' : Yields C.P ops o v a := hy.imp (fun ⟨h1, h2⟩ => ⟨h1, fun w' => h2 w' (by rw [hl]; intro e; cases e)⟩) id
        exact wpAny_take hi hs hc.2 (by rw [hr]; simpa using hm) (fun c a w hq => (hQ _ _ _ hq).elim) hy' (step i _ _ hg)
      · split at h
        · split at h
          case h_2 => cases h
          rename_i o hi
          refine wpAny_all hr (by simp) fun i him => ?_
          have : i = r0 := by simpa using him
          subst this
          exact opW_sound hG hE hN S hw hi h (step i)
        · split at h
          case h_2 =>
            refine wpAny_all hr (by simp) fun i him => ?_
            have hall := bothL_all h _ (List.mem_map.2 ⟨i, him, rfl⟩)
            split at hall
            case h_2 => cases hall
            rename_i o hi
            exact opW_sound hG hE hN S hw hi hall (step i)
          rename_i i hf
          split at h
          case h_2 => cases h
          rename_i o hi
          have hm := List.mem_of_find?_eq_some hf
          have hc := List.find?_some hf
          exact load_take S hs hi hc (by rw [hr]; exact hm) hQ h fun a' hg => step i a' w hg

/-- A region. -/
theorem regionA_sound {G : Req → R} (hG : EnterOk C G) (hE : ExtOk C) (hN : NoCount C.P) (hm : C.P.follows .mixedOrders = true) {draw : Bool} {κ : St → R} {r : List L} {Q : Exit → Act → World → Prop} (hQ : ∀ c a w, Q (.panic c) a w → False)
    (S : Sim C.P w fz ρ Wr a st) (hw : ∀ k, w.heap.size ≤ k → Wr k) (h : regionA C G ops draw st κ = some r) {id : Nat}
    (hk : ∀ a' w', Good C w fz ρ Wr a.defers κ r a' w' → Q .normal a' w') : (Code.region id ops draw).wp C.P Q a w := by
  unfold regionA at h
  split at h
  · intro b k cs
    have := opsA_sound hG hE hN (Q := Q) ops.toList 0 rfl S hw h hk
    obtain ⟨e, a', w', hq, harr⟩ := wp_ops _ a w this b k cs
    refine ⟨e, a', w', hq, .of_steps (.one ?_) harr⟩
    have hrange : List.range' 0 ops.toList.length = List.range ops.size := by rw [List.range_eq_range']; simp
    rw [hrange]
    exact step_region
  · split at h
    case isFalse => cases h
    rename_i hs
    refine wp_region_any hm ?_
    have M : Mv Wr w fz w.drew fz := .drew
    have M0 : Mv (fun _ => False) w fz w.drew fz := .drew
    have S' : Sim C.P w.drew fz ρ Wr a st := ⟨RepDs.mono S.tm fun v l _ hv => hv.mono C.P M.keep M.ext.1 fun b _ v hv => hv, S.hp.moved M0 (fun g o h => S.hp.lt g o h) fun _ _ h => h⟩
    exact drawA_sound hG hE hN hs hQ ops.size (w := w.drew) S' hw h fun a' w' hg => hk a' w' (hg.trans M (.refl ρ))

end
end Go.Ab
namespace Go.Ab
section
variable {C : Cfg} {w w' : World} {fz fz' : Fz} {ρ ρ' : Rho} {Wr : Nat → Prop} {a : Act} {st : St}

def resOf (tmps : Array Value) : ResultVar → Sem Value
  | .tmp t => pure (tmps.getD t undef)
  | .cell a t => do loadVar t (← asAddr (tmps.getD a undef))

theorem getD_undef (S : Sim C.P w fz ρ Wr a st) (x : Tmp) : RepD (Rep C.P w fz ρ) (a.tmps.getD x undef) (st.tm.getD x .undef) := S.ev (.tmp x)

theorem resOne_sound (S : Sim C.P w fz ρ Wr a st) {rv : ResultVar} {d : D} (h : resOne C st rv = some d) : ∃ v, (resOf a.tmps rv).run C.P w = .ok v w ∧ RepD (Rep C.P w fz ρ) v d := by
  unfold resOne at h
  split at h
  · cases h
    exact ⟨_, rfl, getD_undef S _⟩
  · rename_i x t
    split at h
    case h_2 => cases h
    rename_i l hl
    have hx := getD_undef S x
    rw [hl] at hx
    obtain ⟨u, h1, h2⟩ := loadA_sound S h hx
    refine ⟨u, ?_, h2⟩
    have hr := h1 w fun _ _ => rfl
    generalize hv : a.tmps.getD x undef = v at hr
    simp only [resOf, hv]
    cases v <;> try (simp [Instr.loadAt, Instr.sureAddr] at hr; done)
    rename_i p
    cases p with
    | none => simp [Instr.loadAt, Instr.sureAddr] at hr
    | some ad => exact hr

theorem resD_sound (S : Sim C.P w fz ρ Wr a st) : ∀ {rvs : List ResultVar} {ts : List TypeId} {ls : List L}, resD C st rvs ts = some ls →
    ∃ vals us, (rvs.mapM (resOf a.tmps)).run C.P w = .ok vals w ∧ Vals C.P ts vals us ∧ RepLs (Rep C.P w fz ρ) us ls
  | [], [], ls, h => by
    simp only [resD, Option.some.injEq] at h
    subst h
    exact ⟨[], [], rfl, rfl, trivial⟩
  | [], _ :: _, _, h => by simp [resD] at h
  | _ :: _, [], _, h => by simp [resD] at h
  | rv :: rvs, t :: ts, ls, h => by
    simp only [resD] at h
    split at h
    case h_2 => cases h
    rename_i d hd
    split at h
    case h_2 => cases h
    rename_i c cs hc hcs
    split at h
    case isFalse => cases h
    rename_i hcond
    obtain ⟨h1, h2, h3⟩ := hcond
    simp only [Option.some.injEq] at h
    subst h
    obtain ⟨v, r1, r2⟩ := resOne_sound S hd
    obtain ⟨vals, us, q1, q2, q3⟩ := resD_sound S hcs
    have hu : ∃ u1 : List Value, u1.length = c.length ∧ RepLs (Rep C.P w fz ρ) u1 c ∧ v = (if d.isAgg then .agg u1.toArray else u1.headD undef) := by
      cases d with
      | lf l =>
        have : c = [l] := by
          cases l <;> simp [D.cells] at hc <;> exact hc.symm
        subst this
        exact ⟨[v], rfl, ⟨r2, trivial⟩, by simp [D.isAgg]⟩
      | agg lls =>
        simp only [D.cells, Option.some.injEq] at hc
        subst hc
        obtain ⟨xs, rfl, hr⟩ := r2
        exact ⟨xs.toList, hr.length, hr, by simp [D.isAgg]⟩
      | tup ds => simp [D.cells] at hc
    obtain ⟨u1, e1, e2, e3⟩ := hu
    refine ⟨v :: vals, u1 ++ us, ?_, ⟨u1, us, rfl, by omega, by omega, by rw [← h2]; exact e3, q2⟩, e2.append q3⟩
    simp only [List.mapM_cons]
    simp [r1, q1]

theorem results_sound (S : Sim C.P w fz ρ Wr a st) {fn : Func} {ts : List TypeId} {ls : List L} (h : resD C st fn.results.toList ts = some ls) :
    ∃ vals us, (results fn a.tmps).run C.P w = .ok (retV vals) w ∧ Vals C.P ts vals us ∧ RepLs (Rep C.P w fz ρ) us ls := by
  obtain ⟨vals, us, h1, h2, h3⟩ := resD_sound S h
  refine ⟨vals, us, ?_, h2, h3⟩
  have e : results fn a.tmps = (do let vs ← fn.results.mapM (resOf a.tmps); pure (if h : vs.size = 1 then vs[0] else .tuple vs)) := by
    unfold results
    congr 1
  rw [e, Array.mapM_eq_mapM_toList]
  simp only [bind_map_left]
  have : ((do let vs ← fn.results.toList.mapM (resOf a.tmps); pure (if h : vs.toArray.size = 1 then vs.toArray[0] else Value.tuple vs.toArray) : Sem Value)).run C.P w = .ok (retV vals) w := by
    rw [Sem.run_bind, h1, Result.andThen_ok]
    match vals with
    | [] => rfl
    | [v] => rfl
    | v :: u :: vs => simp [retV]
  exact this
end
end Go.Ab
namespace Go.Ab
section
variable {C : Cfg} {w w' : World} {fz fz' : Fz} {ρ ρ' ρ0 : Rho} {Wr : Nat → Prop} {a : Act} {st : St}

def RowLive (ρ : Rho) (hp : List B) (g : Nat) : Prop := ∃ r t xs ex u, hp.getD r .dead = .row t xs ex ∧ ρ r = some u ∧ bk u = some g

theorem hide_one (hp : List B) (r : Nat) : killIds [r] hp = hp.set r .dead := rfl
theorem HSim.kill {hp : List B} (H : HSim C.P w fz ρ Wr hp) (r : Nat) : HSim C.P w fz ρ Wr (hp.set r .dead) := by rw [← hide_one]; exact H.hide [r]

theorem rowLive_kill {hp : List B} {r g : Nat} (h : RowLive ρ (hp.set r .dead) g) : RowLive ρ hp g := by
  obtain ⟨r', t, xs, ex, u, h1, h2, h3⟩ := h
  rw [getD_set] at h1
  split at h1
  · cases h1
  · exact ⟨r', t, xs, ex, u, h1, h2, h3⟩
theorem not_rowLive_kill {hp : List B} (H : HSim C.P w fz ρ Wr hp) {r g : Nat} {t : TypeId} {xs : List (List L)} {ex : Bool} {u : Value} (hr : hp.getD r .dead = .row t xs ex) (hu : ρ r = some u) (hg : bk u = some g) : ¬ RowLive ρ (hp.set r .dead) g := by
  rintro ⟨r', t', xs', ex', u', h1, h2, h3⟩
  rw [getD_set] at h1
  split at h1
  · cases h1
  · rename_i hne
    have hrr : r' ≠ r := by
      intro e
      subst e
      have hlt : r' < hp.length := live_lt (by rw [hr]; simp)
      exact hne ⟨rfl, hlt⟩
    exact H.dis r' r u' u g hrr (by rw [h1]; simp) (by rw [hr]; simp) h2 hu h3 hg
theorem box_kill {hp : List B} {r : Nat} {t : TypeId} {xs : List (List L)} {ex : Bool} (hr : hp.getD r .dead = .row t xs ex) (b : Nat) (ks : List K) (cs : List L) : (hp.set r .dead).getD b .dead = .box ks cs ↔ hp.getD b .dead = .box ks cs := by
  rw [getD_set]
  split
  · rename_i h
    rw [← h.1, hr]; simp
  · rfl

theorem fits_hasK {k : K} {l : L} (h : k.fits l = true) (h1 : ∀ t, k ≠ .sl t) (h2 : k ≠ .oth) : HasK k l := by
  cases k <;> cases l <;> simp [K.fits] at h <;> first
    | exact absurd rfl (h1 _)
    | exact absurd rfl h2
    | (subst h; exact ⟨_, rfl⟩)
    | exact ⟨_, rfl⟩

theorem frz_rowLive {hp : List B} {r : Nat} {t : TypeId} {xs : List (List L)} {ex : Bool} (hr : hp.getD r .dead = .row t xs ex) {g : Nat} : RowLive ρ (hp.set r (.row t xs false)) g → RowLive ρ hp g := by
  rintro ⟨r', t', xs', ex', u', h1, h2, h3⟩
  rw [getD_set] at h1
  split at h1
  · rename_i h
    exact ⟨r, t, xs, ex, u', hr, by rw [h.1]; exact h2, h3⟩
  · exact ⟨r', t', xs', ex', u', h1, h2, h3⟩
theorem frz_box {hp : List B} {r : Nat} {t : TypeId} {xs : List (List L)} {ex : Bool} (hr : hp.getD r .dead = .row t xs ex) (b : Nat) (ks : List K) (cs : List L) : (hp.set r (.row t xs false)).getD b .dead = .box ks cs ↔ hp.getD b .dead = .box ks cs := by
  rw [getD_set]
  split
  · rename_i h
    rw [← h.1, hr]; simp
  · rfl

/-- A row that this call owns and nobody else knows goes over. -/
theorem ownS_of {hp : List B} (H : HSim C.P w fz ρ Wr hp) {r : Nat} {t : TypeId} {xs : List (List L)} {u : Value} (hr : hp.getD r .dead = .row t xs true) (hu : ρ r = some u) : OwnS C.P w fz t u xs := by
  have hB := H.blk r
  rw [hr] at hB
  obtain ⟨v, us, h1, h2, h3, h4, h5, h6, h7, h8⟩ := hB
  rw [hu] at h1; cases h1
  refine ⟨us, h2, h3.mono fun v l hl hv => ?_, h4, h5, h6, fun g o hg ho => by have := (h7 g o hg ho).1; cases this⟩
  obtain ⟨e, he, hle⟩ := List.mem_flatten.1 hl
  obtain ⟨kk, hk⟩ := HasKs.mem (h4 e he) l hle
  exact hv.of_hasK C.P hk

structure FinOk (C : Cfg) (w : World) (ρ : Rho) (Wr : Nat → Prop) (hp : List B) (fz' : Fz) (hp' : List B) (gs : List Nat) : Prop where
  sim : HSim C.P w fz' ρ Wr hp'
  gone : ∀ g ∈ gs, RowLive ρ hp g ∧ ¬ RowLive ρ hp' g
  still : ∀ g, RowLive ρ hp' g → RowLive ρ hp g
  nd : gs.Nodup
  box : ∀ b ks cs, hp'.getD b .dead = .box ks cs ↔ hp.getD b .dead = .box ks cs
theorem FinOk.refl {hp : List B} (H : HSim C.P w fz ρ Wr hp) : FinOk C w ρ Wr hp fz hp [] := ⟨H, by simp, fun _ h => h, List.nodup_nil, fun _ _ _ => Iff.rfl⟩
theorem FinOk.trans {hp hp1 hp2 : List B} {fz1 fz2 : Fz} {g1 g2 : List Nat} (h : FinOk C w ρ Wr hp fz1 hp1 g1) (k : FinOk C w ρ Wr hp1 fz2 hp2 g2) : FinOk C w ρ Wr hp fz2 hp2 (g1 ++ g2) :=
  ⟨k.sim, fun g hg => by
    rcases List.mem_append.1 hg with x | x
    · exact ⟨(h.gone g x).1, fun y => (h.gone g x).2 (k.still g y)⟩
    · exact ⟨h.still g (k.gone g x).1, (k.gone g x).2⟩, fun g x => h.still g (k.still g x), List.nodup_append.2 ⟨h.nd, k.nd, fun x hx y hy e => (h.gone x hx).2 (e ▸ (k.gone y hy).1)⟩, fun b ks cs => (k.box b ks cs).trans (h.box b ks cs)⟩

theorem FinOk.killed {hp : List B} (H : HSim C.P w fz ρ Wr hp) {r : Nat} {t : TypeId} {xs : List (List L)} {ex : Bool} {u : Value} (hr : hp.getD r .dead = .row t xs ex) (hu : ρ r = some u) : FinOk C w ρ Wr hp fz (hp.set r .dead) (bk u).toList := by
  refine ⟨H.kill r, fun g hg => ?_, fun g h => rowLive_kill h, ?_, fun b ks cs => box_kill hr b ks cs⟩
  · have hg' : bk u = some g := by cases e : bk u <;> simp_all
    exact ⟨⟨r, t, xs, ex, u, hr, hu, hg'⟩, not_rowLive_kill H hr hu hg'⟩
  · cases bk u <;> simp

theorem rep_row_inv {v : Value} {r : Nat} (h : Rep C.P w fz ρ v (.row r)) : ρ r = some v := by cases h; assumption
theorem rep_nils_inv {v : Value} {t : TypeId} (h : Rep C.P w fz ρ v (.nils t)) : v = .slice none 0 0 := by cases h; rfl
theorem rep_nil_lst (t : TypeId) : Rep C.P w fz ρ (.slice none 0 0) (.lst t []) :=
  .lst none 0 0 t [] (fun _ => undef) ⟨0, 0, none⟩ rfl (Nat.le_refl _) (by simp) (by simp) (by simp) (by simp) (by simp)

theorem ownS_nil {t : TypeId} (h : nilOk C.P t = true) : OwnS C.P w fz t (.slice none 0 0) [] := by
  simp only [nilOk, Bool.and_eq_true, decide_eq_true_eq] at h
  exact ⟨[], ⟨by simp, .inl ⟨rfl, rfl⟩⟩, trivial, by simp, h.1, h.2, fun g o hg => by simp [bk] at hg⟩

theorem finD_sound {own : Bool} : ∀ {ks : List K} {ls : List L} {hp hp' : List B} {o : List L} {us : List Value} {fz : Fz}, HSim C.P w fz ρ Wr hp → RepLs (Rep C.P w fz ρ) us ls → finD C.P own ks ls hp = some (o, hp') →
    ∃ fz' gs, FzExt fz fz' Wr ∧ FinOk C w ρ Wr hp fz' hp' gs ∧ (∀ rest, Bk C.P w fz' own ks us (o ++ rest) gs) ∧ o.length = ks.length ∧ (own = true → fz' = fz)
  | [], [], hp, hp', o, us, fz, H, hr, h => by
    simp only [finD, Option.some.injEq, Prod.mk.injEq] at h
    obtain ⟨rfl, rfl⟩ := h
    have hu : us = [] := by cases us <;> simp_all [RepLs]
    subst hu
    exact ⟨fz, [], .refl, .refl H, fun _ => by simp [Bk], rfl, fun _ => rfl⟩
  | [], _ :: _, _, _, _, _, _, _, _, h => by simp [finD] at h
  | _ :: _, [], _, _, _, _, _, _, _, h => by simp [finD] at h
  | k :: ks, l :: ls, hp, hp', o, [], fz, H, hr, h => by simp [RepLs] at hr
  | k :: ks, l :: ls, hp, hp', o, u :: us, fz, H, hr, h => by
    obtain ⟨hu, hus⟩ := hr
    -- a cell that is handed back as it is
    have plain : ∀ {l' : L} {fz1 : Fz} {hp1 : List B}, FzExt fz fz1 Wr → HSim C.P w fz1 ρ Wr hp1 → FinOk C w ρ Wr hp fz1 hp1 [] → Rep C.P w fz1 ρ u l' → HasK k l' → (own = true → (∀ t, k ≠ .sl t) ∧ fz1 = fz) →
        (match finD C.P own ks ls hp1 with | some (o, hp') => some (l' :: o, hp') | none => none) = some (o, hp') →
        ∃ fz' gs, FzExt fz fz' Wr ∧ FinOk C w ρ Wr hp fz' hp' gs ∧ (∀ rest, Bk C.P w fz' own (k :: ks) (u :: us) (o ++ rest) gs) ∧ o.length = (k :: ks).length ∧ (own = true → fz' = fz) := by
      intro l' fz1 hp1 x1 H1 F1 hu1 hk1 hown hm
      split at hm
      case h_2 => cases hm
      rename_i o2 hp2 e2
      simp only [Option.some.injEq, Prod.mk.injEq] at hm
      obtain ⟨rfl, rfl⟩ := hm
      obtain ⟨fz2, gs, x2, F2, b2, n2, q2⟩ := finD_sound H1 (hus.mono fun v l _ hv => hv.mono C.P (fun _ _ _ _ h => h) x1.1 fun _ _ _ h => h) e2
      refine ⟨fz2, gs, x1.trans x2, by simpa using F1.trans F2, fun rest => ?_, by simp [n2], fun ho => (q2 ho).trans (hown ho).2⟩
      have hu2 : Rep C.P w fz2 (fun _ => none) u l' := (hu1.mono C.P (fun _ _ _ _ h => h) x2.1 fun _ _ _ h => h).of_hasK C.P hk1
      cases k with
      | sl t =>
        cases own with
        | true => exact absurd rfl ((hown rfl).1 t)
        | false => simp only [List.cons_append, Bk, Bool.false_eq_true, if_false, List.headD_cons, List.tail_cons]; exact ⟨hk1, hu2, b2 rest⟩
      | oth => simp [HasK] at hk1
      | int k => simp only [List.cons_append, Bk, List.headD_cons, List.tail_cons]; exact ⟨hk1, hu2, b2 rest⟩
      | bool => simp only [List.cons_append, Bk, List.headD_cons, List.tail_cons]; exact ⟨hk1, hu2, b2 rest⟩
      | str => simp only [List.cons_append, Bk, List.headD_cons, List.tail_cons]; exact ⟨hk1, hu2, b2 rest⟩
    -- one that goes over
    have goes : ∀ {t : TypeId} {xs : List (List L)} {hp1 : List B}, k = .sl t → own = true → FinOk C w ρ Wr hp fz hp1 (bk u).toList → OwnS C.P w fz t u xs →
        (match finD C.P own ks ls hp1 with | some (o, hp') => some (.lst t xs :: o, hp') | none => none) = some (o, hp') →
        ∃ fz' gs, FzExt fz fz' Wr ∧ FinOk C w ρ Wr hp fz' hp' gs ∧ (∀ rest, Bk C.P w fz' own (k :: ks) (u :: us) (o ++ rest) gs) ∧ o.length = (k :: ks).length ∧ (own = true → fz' = fz) := by
      intro t xs hp1 hk ho F1 hO hm
      subst hk ho
      split at hm
      case h_2 => cases hm
      rename_i o2 hp2 e2
      simp only [Option.some.injEq, Prod.mk.injEq] at hm
      obtain ⟨rfl, rfl⟩ := hm
      obtain ⟨fz2, gs, x2, F2, b2, n2, q2⟩ := finD_sound F1.sim hus e2
      have := q2 rfl
      subst this
      refine ⟨_, (bk u).toList ++ gs, x2, F1.trans F2, fun rest => ?_, by simp [n2], fun _ => rfl⟩
      simp only [List.cons_append, Bk, if_true, List.headD_cons, List.tail_cons]
      exact ⟨xs, gs, rfl, hO, rfl, b2 rest⟩
    cases k with
    | oth => simp [finD] at h
    | int k =>
      simp only [finD] at h
      split at h
      case isFalse => cases h
      rename_i hf
      exact plain .refl H (.refl H) hu (fits_hasK hf (by simp) (by simp)) (fun _ => ⟨by simp, rfl⟩) h
    | bool =>
      simp only [finD] at h
      split at h
      case isFalse => cases h
      rename_i hf
      exact plain .refl H (.refl H) hu (fits_hasK hf (by simp) (by simp)) (fun _ => ⟨by simp, rfl⟩) h
    | str =>
      simp only [finD] at h
      split at h
      case isFalse => cases h
      rename_i hf
      exact plain .refl H (.refl H) hu (fits_hasK hf (by simp) (by simp)) (fun _ => ⟨by simp, rfl⟩) h
    | sl t =>
      simp only [finD] at h
      split at h
      · rename_i r
        split at h
        case h_2 => cases h
        rename_i t' xs ex hb
        split at h
        case isFalse => cases h
        rename_i hc
        obtain ⟨rfl, hex⟩ := hc
        have hρ := rep_row_inv hu
        cases own with
        | true =>
          have := hex rfl
          subst this
          exact goes rfl rfl (.killed H hb hρ) (ownS_of H hb hρ) (by simp only [if_true] at h; exact h)
        | false =>
          have hfr : frzL hp (.row r) = some (.lst t' xs, hp.set r (.row t' xs false)) := by simp only [frzL, hb]
          obtain ⟨fz1, x1, H1, r1, f1, n1⟩ := frzL_sound H hfr hu
          exact plain x1 H1 ⟨H1, by simp, fun g => frz_rowLive hb, List.nodup_nil, fun b ks cs => frz_box hb b ks cs⟩ r1 ⟨xs, rfl⟩ (fun e => by cases e) (by simp only [Bool.false_eq_true, if_false] at h; exact h)
      · rename_i t0
        have := rep_nils_inv hu
        subst this
        split at h
        case isFalse => cases h
        rename_i hnil
        cases own with
        | true => exact goes rfl rfl (by simpa [bk] using FinOk.refl H) (ownS_nil hnil) h
        | false => exact plain .refl H (.refl H) (rep_nil_lst t) ⟨[], rfl⟩ (fun e => by cases e) h
      · rename_i t' xs
        split at h
        case isFalse => cases h
        rename_i hc
        obtain ⟨rfl, rfl⟩ := hc
        exact plain .refl H (.refl H) hu ⟨xs, rfl⟩ (fun e => by cases e) h
      · cases h
end
end Go.Ab
namespace Go.Ab
section
variable {C : Cfg} {w w' : World} {fz fz' : Fz} {ρ ρ' ρ0 : Rho} {Wr : Nat → Prop} {a : Act} {st : St}

mutual
theorem othEq_eq : ∀ {a b : L}, othEq a b = true → a = b
  | .ptr b o, y, h => by
    cases y <;> simp [othEq] at h
    rw [h.1, h.2]
  | .nilp, y, h => by cases y <;> simp [othEq] at h; rfl
  | .nilf, y, h => by cases y <;> simp [othEq] at h; rfl
  | .clo f cs, y, h => by
    cases y <;> simp [othEq] at h
    rw [h.1, othEqs_eq h.2]
  | .int _ _, y, h => by simp [othEq] at h
  | .bool _, y, h => by simp [othEq] at h
  | .str _, y, h => by simp [othEq] at h
  | .lst _ _, y, h => by simp [othEq] at h
  | .row _, y, h => by simp [othEq] at h
  | .nils _, y, h => by simp [othEq] at h
  | .aptr _ _ _ _, y, h => by simp [othEq] at h
  | .eptr _ _ _, y, h => by simp [othEq] at h
  | .rptr _ _ _ _, y, h => by simp [othEq] at h
  | .any, y, h => by simp [othEq] at h
theorem othEqs_eq : ∀ {a b : List L}, othEqs a b = true → a = b
  | [], [], _ => rfl
  | [], _ :: _, h => by simp [othEqs] at h
  | _ :: _, [], h => by simp [othEqs] at h
  | a :: as, b :: bs, h => by
    simp only [othEqs, Bool.and_eq_true] at h
    rw [othEq_eq h.1, othEqs_eq h.2]
end
mutual
theorem othEq_self : ∀ {a b : L}, othEq a b = true → othEq a a = true := fun h => by
  have := othEq_eq h
  subst this
  exact h
end
mutual
/-- The blocks of such a cell are boxes. -/
theorem oth_refs : ∀ {l : L} {v : Value}, othEq l l = true → Rep C.P w fz ρ v l → ∀ i ∈ refsL l, ∃ p, ρ i = some (.pointer p)
  | .ptr b o, v, _, hr, i, hi => by
    have hi' : i = b := by simpa [refsL] using hi
    subst hi'
    cases hr with
    | ptr _ _ ad h => exact ⟨_, h⟩
  | .nilp, v, _, _, i, hi => by simp [refsL] at hi
  | .nilf, v, _, _, i, hi => by simp [refsL] at hi
  | .clo f cs, v, h, hr, i, hi => by
    simp only [othEq, Bool.and_eq_true] at h
    cases hr with
    | clo _ vs _ h1 h2 => exact oth_refss h.2 (fun j l hl => ⟨_, h2 j l hl⟩) i (by simpa [refsL] using hi)
  | .int _ _, v, h, _, _, _ => by simp [othEq] at h
  | .bool _, v, h, _, _, _ => by simp [othEq] at h
  | .str _, v, h, _, _, _ => by simp [othEq] at h
  | .lst _ _, v, h, _, _, _ => by simp [othEq] at h
  | .row _, v, h, _, _, _ => by simp [othEq] at h
  | .nils _, v, h, _, _, _ => by simp [othEq] at h
  | .aptr _ _ _ _, v, h, _, _, _ => by simp [othEq] at h
  | .eptr _ _ _, v, h, _, _, _ => by simp [othEq] at h
  | .rptr _ _ _ _, v, h, _, _, _ => by simp [othEq] at h
  | .any, v, h, _, _, _ => by simp [othEq] at h
theorem oth_refss : ∀ {ls : List L}, othEqs ls ls = true → (∀ (j : Nat) l, ls[j]? = some l → ∃ v, Rep C.P w fz ρ v l) → ∀ i ∈ refsLs ls, ∃ p, ρ i = some (.pointer p)
  | [], _, _, i, hi => by simp [refsLs] at hi
  | l :: ls, h, hr, i, hi => by
    simp only [othEqs, Bool.and_eq_true] at h
    simp only [refsLs, List.mem_append] at hi
    rcases hi with hi | hi
    · obtain ⟨v, hv⟩ := hr 0 l rfl
      exact oth_refs h.1 hv i hi
    · exact oth_refss h.2 (fun j l hl => hr (j + 1) l (by simpa using hl)) i hi
end

/-- What is known of a cell that must be left as it is. -/
def OldOk (ρ0 ρ : Rho) (old : List L) : Prop := ∀ l ∈ old, othEq l l = true → ∀ i ∈ refsL l, ∃ p, ρ0 i = some (.pointer p) ∧ ρ i = some (.pointer p)
theorem OldOk.tail {old : List L} (h : OldOk ρ0 ρ old) : OldOk ρ0 ρ old.tail := fun l hl => h l (List.mem_of_mem_tail hl)

theorem finBox_sound : ∀ {ks : List K} {old cs : List L} {hp hp' : List B} {o : List L} {us : List Value}, HSim C.P w fz ρ Wr hp → RepLs (Rep C.P w fz ρ) us cs → TyB ks cs → OldOk ρ0 ρ old → finBox C.P ks old cs hp = some (o, hp') →
    ∃ gs, FinOk C w ρ Wr hp fz hp' gs ∧ (∀ rest, BkBox C.P w fz ρ0 ks old us (o ++ rest) gs) ∧ o.length = ks.length
  | [], old, [], hp, hp', o, us, H, hr, ht, hold, h => by
    simp only [finBox, Option.some.injEq, Prod.mk.injEq] at h
    obtain ⟨rfl, rfl⟩ := h
    have hu : us = [] := by cases us <;> simp_all [RepLs]
    subst hu
    exact ⟨[], .refl H, fun _ => by simp [BkBox], rfl⟩
  | [], _, _ :: _, _, _, _, _, _, _, _, _, h => by simp [finBox] at h
  | k :: ks, _, [], _, _, _, _, _, _, ht, _, h => by simp [TyB] at ht
  | k :: ks, old, l :: ls, hp, hp', o, [], H, hr, ht, hold, h => by simp [RepLs] at hr
  | k :: ks, old, l :: ls, hp, hp', o, u :: us, H, hr, ht, hold, h => by
    obtain ⟨hu, hus⟩ := hr
    obtain ⟨htk, hts⟩ := ht
    have step : ∀ {l' : L} {hp1 : List B} {g1 : List Nat}, FinOk C w ρ Wr hp fz hp1 g1 → (∀ rest gs, BkBox C.P w fz ρ0 ks old.tail us rest gs → BkBox C.P w fz ρ0 (k :: ks) old (u :: us) (l' :: rest) (g1 ++ gs)) →
        (match finBox C.P ks old.tail ls hp1 with | some (o, hp') => some (l' :: o, hp') | none => none) = some (o, hp') →
        ∃ gs, FinOk C w ρ Wr hp fz hp' gs ∧ (∀ rest, BkBox C.P w fz ρ0 (k :: ks) old (u :: us) (o ++ rest) gs) ∧ o.length = (k :: ks).length := by
      intro l' hp1 g1 F1 hb hm
      split at hm
      case h_2 => cases hm
      rename_i o2 hp2 e2
      simp only [Option.some.injEq, Prod.mk.injEq] at hm
      obtain ⟨rfl, rfl⟩ := hm
      obtain ⟨gs, F2, b2, n2⟩ := finBox_sound F1.sim hus hts hold.tail e2
      exact ⟨g1 ++ gs, F1.trans F2, fun rest => hb _ _ (b2 rest), by simp [n2]⟩
    cases k with
    | int k =>
      simp only [finBox] at h
      exact step (.refl H) (fun rest gs hb => by simp only [BkBox, List.nil_append, List.headD_cons, List.tail_cons]; exact ⟨htk, hu.of_hasK C.P (k := .int k) htk, hb⟩) h
    | bool =>
      simp only [finBox] at h
      exact step (.refl H) (fun rest gs hb => by simp only [BkBox, List.nil_append, List.headD_cons, List.tail_cons]; exact ⟨htk, hu.of_hasK C.P (k := .bool) htk, hb⟩) h
    | str =>
      simp only [finBox] at h
      exact step (.refl H) (fun rest gs hb => by simp only [BkBox, List.nil_append, List.headD_cons, List.tail_cons]; exact ⟨htk, hu.of_hasK C.P (k := .str) htk, hb⟩) h
    | oth =>
      simp only [finBox] at h
      split at h
      case isFalse => cases h
      rename_i he
      refine step (.refl H) (fun rest gs hb => ?_) h
      simp only [BkBox, List.nil_append, List.headD_cons, List.tail_cons]
      refine ⟨?_, hb⟩
      have e := othEq_eq he
      rw [e]
      refine hu.mono C.P (fun _ _ _ _ h => h) (fun _ _ h => h) fun b hb v hv => ?_
      cases old with
      | nil => simp [othEq] at he
      | cons x xs =>
        simp only [List.headD_cons] at he e
        subst e
        obtain ⟨p, q1, q2⟩ := hold _ List.mem_cons_self he b hb
        rw [q2] at hv; cases hv
        exact q1
    | sl t =>
      simp only [finBox] at h
      split at h
      · rename_i r
        split at h
        case h_2 => cases h
        rename_i t' xs hb
        split at h
        case isFalse => cases h
        rename_i hc
        subst hc
        have hρ := rep_row_inv hu
        exact step (.killed H hb hρ) (fun rest gs hb' => by simp only [BkBox, List.headD_cons, List.tail_cons]; exact ⟨xs, gs, rfl, ownS_of H hb hρ, rfl, hb'⟩) h
      · rename_i t0
        have := rep_nils_inv hu
        subst this
        split at h
        case isFalse => cases h
        rename_i hnil
        exact step (.refl H) (fun rest gs hb' => by simp only [BkBox, List.headD_cons, List.tail_cons]; exact ⟨[], gs, rfl, ownS_nil hnil, by simp [bk], hb'⟩) h
      · cases h

def SkInv (ρ0 ρ : Rho) (b : Nat) (sk : Skel) : Prop := ∀ j ks old, sk[j]? = some (some (ks, old)) → (∃ g, ρ0 (b + j) = some (.pointer (some ⟨g, 0, none⟩)) ∧ ρ (b + j) = some (.pointer (some ⟨g, 0, none⟩))) ∧ OldOk ρ0 ρ old
theorem SkInv.tail {b : Nat} {x : Option (List K × List L)} {sk : Skel} (h : SkInv ρ0 ρ b (x :: sk)) : SkInv ρ0 ρ (b + 1) sk := fun j ks old hj => by
  have := h (j + 1) ks old (by simpa using hj)
  have e : b + (j + 1) = b + 1 + j := by omega
  rwa [e] at this

theorem finBoxes_sound : ∀ {sk : Skel} {b : Nat} {hp : List B} {o : List L}, HSim C.P w fz ρ Wr hp → SkInv ρ0 ρ b sk → finBoxes C.P b sk hp = some o →
    ∃ gs bg hp', FinOk C w ρ Wr hp fz hp' gs ∧ BxS C.P w fz ρ0 b sk o gs bg ∧ bg.Nodup ∧ ∀ g ∈ bg, ∃ i ks cs, b ≤ i ∧ hp.getD i .dead = .box ks cs ∧ ρ i = some (.pointer (some ⟨g, 0, none⟩))
  | [], b, hp, o, H, hs, h => ⟨[], [], hp, .refl H, ⟨rfl, rfl⟩, List.nodup_nil, by simp⟩
  | none :: sk, b, hp, o, H, hs, h => by
    simp only [finBoxes] at h
    obtain ⟨gs, bg, hp', h1, h2, h3, h4⟩ := finBoxes_sound H hs.tail h
    exact ⟨gs, bg, hp', h1, h2, h3, fun g hg => by
      obtain ⟨i, ks, cs, a, b, c⟩ := h4 g hg
      exact ⟨i, ks, cs, by omega, b, c⟩⟩
  | some (ks0, old) :: sk, b, hp, o, H, hs, h => by
    simp only [finBoxes] at h
    split at h
    case h_2 => cases h
    rename_i ks cs hb
    split at h
    case isFalse => cases h
    rename_i hk
    subst hk
    split at h
    case h_2 => cases h
    rename_i o1 hp1 e1
    split at h
    case h_2 => cases h
    rename_i o2 e2
    simp only [Option.some.injEq] at h
    subst h
    obtain ⟨⟨g, q1, q2⟩, hold⟩ := hs 0 ks old rfl
    simp only [Nat.add_zero] at q1 q2
    have hB := H.blk b
    rw [hb] at hB
    obtain ⟨g', us, t, k1, k2, k3, k4, k5⟩ := hB
    rw [q2] at k1; cases k1
    obtain ⟨g1, F1, b1, n1⟩ := finBox_sound (ρ0 := ρ0) H k3 k4 hold e1
    obtain ⟨g2, bg, hp2, F2, b2, n2, l2⟩ := finBoxes_sound F1.sim hs.tail e2
    refine ⟨g1 ++ g2, g :: bg, hp2, F1.trans F2, ⟨g, us, t, g1, g2, bg, q1, k2, k5, b1 o2, rfl, rfl, ?_⟩, ?_, ?_⟩
    · have : (o1 ++ o2).drop ks.length = o2 := by rw [← n1]; simp
      rw [this]; exact b2
    · refine List.nodup_cons.2 ⟨fun hm => ?_, n2⟩
      obtain ⟨i, ks', cs', hi, hb', hρ⟩ := l2 g hm
      have hb'' := (F1.box i ks' cs').1 hb'
      exact H.dis i b _ _ g (by omega) (by rw [hb'']; simp) (by rw [hb]; simp) hρ q2 rfl rfl
    · intro x hx
      rcases List.mem_cons.1 hx with rfl | hx
      · exact ⟨b, ks, cs, Nat.le_refl _, hb, q2⟩
      · obtain ⟨i, ks', cs', hi, hb', hρ⟩ := l2 x hx
        exact ⟨i, ks', cs', by omega, (F1.box i ks' cs').1 hb', hρ⟩
end
end Go.Ab
namespace Go.Ab
section
variable {C : Cfg} {w w' : World} {fz fz' : Fz} {ρ ρ' ρ0 : Rho} {Wr : Nat → Prop} {a : Act} {st : St}

theorem liveTm_sound {live : List Nat} : ∀ {vs : List Value} {ds : List D} (i : Nat), RepDs (Rep C.P w fz ρ) vs ds → RepDs (Rep C.P w fz ρ) vs (liveTm live i ds)
  | [], [], _, _ => trivial
  | v :: vs, d :: ds, i, h => by
    simp only [RepDs] at h
    simp only [liveTm, RepDs]
    refine ⟨?_, liveTm_sound (i + 1) h.2⟩
    split
    · exact h.1
    · exact repD_any v
  | [], _ :: _, _, h => by simp [RepDs] at h
  | _ :: _, [], _, h => by simp [RepDs] at h

/-- The abstract heap has grown; what was told stays told. -/
structure Up (C : Cfg) (w : World) (fz : Fz) (Wr : Nat → Prop) (ρ : Rho) (hp : List B) (ρ' : Rho) (hp' : List B) : Prop where
  sim : HSim C.P w fz ρ' Wr hp'
  le : ∀ b v, ρ b = some v → ρ' b = some v
  len : hp.length ≤ hp'.length
  old : ∀ b, b < hp.length → hp'.getD b .dead = hp.getD b .dead
theorem Up.refl {hp : List B} (H : HSim C.P w fz ρ Wr hp) : Up C w fz Wr ρ hp ρ hp := ⟨H, fun _ _ h => h, Nat.le_refl _, fun _ _ => rfl⟩
theorem Up.trans {hp hp1 hp2 : List B} {ρ1 ρ2 : Rho} (h : Up C w fz Wr ρ hp ρ1 hp1) (k : Up C w fz Wr ρ1 hp1 ρ2 hp2) : Up C w fz Wr ρ hp ρ2 hp2 :=
  ⟨k.sim, fun b v x => k.le b v (h.le b v x), Nat.le_trans h.len k.len, fun b hb => (k.old b (Nat.lt_of_lt_of_le hb h.len)).trans (h.old b hb)⟩

theorem upL_sound {hp : List B} (H : HSim C.P w fz ρ Wr hp) {v : Value} {l : L} (h : Rep C.P w fz ρ v l) : ∃ ρ', Up C w fz Wr ρ hp ρ' (upL C.P hp l).2 ∧ Rep C.P w fz ρ' v (upL C.P hp l).1 := by
  unfold upL
  split
  · rename_i t
    split
    · rename_i hn
      have := rep_nils_inv h
      subst this
      simp only [nilOk, Bool.and_eq_true, decide_eq_true_eq] at hn
      have A := H.addSame (v := .slice none 0 0) (B := .row t [] true) rfl (fun g hg => by simp [bk] at hg)
        ⟨.slice none 0 0, [], by simp, World.ownsRow_nil w 0 t _, trivial, by simp, hn.1, hn.2, fun g o hg => by simp [bk] at hg, fun e => by cases e⟩
      refine ⟨_, ⟨A.1, fun b u hu => ?_, by simp, fun b hb => by simp [List.getD, List.getElem?_append_left hb]⟩, .row _ _ (by simp)⟩
      have : b ≠ hp.length := fun e => by rw [H.out b (by omega)] at hu; cases hu
      simp [this, hu]
    · exact ⟨ρ, .refl H, h⟩
  · exact ⟨ρ, .refl H, h⟩

theorem upLs_sound : ∀ {ls : List L} {hp : List B} {vs : List Value} {ρ : Rho}, HSim C.P w fz ρ Wr hp → RepLs (Rep C.P w fz ρ) vs ls → ∃ ρ', Up C w fz Wr ρ hp ρ' (upLs C.P hp ls).2 ∧ RepLs (Rep C.P w fz ρ') vs (upLs C.P hp ls).1
  | [], hp, vs, ρ, H, h => ⟨ρ, .refl H, h⟩
  | l :: ls, hp, [], ρ, H, h => by simp [RepLs] at h
  | l :: ls, hp, v :: vs, ρ, H, h => by
    obtain ⟨ρ1, U1, r1⟩ := upL_sound H h.1
    obtain ⟨ρ2, U2, r2⟩ := upLs_sound U1.sim (h.2.mono fun v l _ hv => rep_le hv U1.le)
    exact ⟨ρ2, U1.trans U2, rep_le r1 U2.le, r2⟩

theorem upD_sound {hp : List B} (H : HSim C.P w fz ρ Wr hp) {v : Value} {d : D} (h : RepD (Rep C.P w fz ρ) v d) : ∃ ρ', Up C w fz Wr ρ hp ρ' (upD C.P hp d).2 ∧ RepD (Rep C.P w fz ρ') v (upD C.P hp d).1 := by
  cases d with
  | lf l => exact upL_sound H h
  | agg ls =>
    obtain ⟨cs, e, hr⟩ := h
    obtain ⟨ρ', U, r⟩ := upLs_sound H hr
    exact ⟨ρ', U, cs, e, r⟩
  | tup ds => exact ⟨ρ, .refl H, h⟩

theorem repDs_le {vs : List Value} {ds : List D} (h : RepDs (Rep C.P w fz ρ) vs ds) (hle : ∀ b v, ρ b = some v → ρ' b = some v) : RepDs (Rep C.P w fz ρ') vs ds := RepDs.mono h fun v l _ hv => rep_le hv hle

theorem upDs_sound : ∀ {ds : List D} {hp : List B} {vs : List Value} {ρ : Rho}, HSim C.P w fz ρ Wr hp → RepDs (Rep C.P w fz ρ) vs ds → ∃ ρ', Up C w fz Wr ρ hp ρ' (upDs C.P hp ds).2 ∧ RepDs (Rep C.P w fz ρ') vs (upDs C.P hp ds).1
  | [], hp, vs, ρ, H, h => ⟨ρ, .refl H, h⟩
  | l :: ls, hp, [], ρ, H, h => by simp [RepDs] at h
  | l :: ls, hp, v :: vs, ρ, H, h => by
    simp only [RepDs] at h
    obtain ⟨ρ1, U1, r1⟩ := upD_sound H h.1
    obtain ⟨ρ2, U2, r2⟩ := upDs_sound U1.sim (repDs_le h.2 U1.le)
    exact ⟨ρ2, U1.trans U2, RepD.mono r1 fun v l _ hv => rep_le hv U2.le, r2⟩

theorem tyB_up : ∀ {ks : List K} {ls : List L} {hp : List B}, TyB ks ls → TyB ks (upLs C.P hp ls).1
  | [], [], _, _ => trivial
  | k :: ks, l :: ls, hp, h => by
    refine ⟨?_, tyB_up h.2⟩
    have := h.1
    cases k <;> simp only [TyK] at this ⊢ <;> (obtain ⟨x, rfl⟩ := this; exact ⟨x, rfl⟩)
  | [], _ :: _, _, h => by simp [TyB] at h
  | _ :: _, [], _, h => by simp [TyB] at h

/-- A box whose cells are told otherwise. -/
theorem HSim.retell {hp : List B} (H : HSim C.P w fz ρ Wr hp) {b : Nat} {ks : List K} {cs cs' : List L} (hb : hp.getD b .dead = .box ks cs) (hB : BS C.P w fz ρ b (.box ks cs')) : HSim C.P w fz ρ Wr (hp.set b (.box ks cs')) := by
  have hlt : b < hp.length := _root_.Go.Ab.live_lt (by rw [hb]; simp)
  have hl : ∀ c, (hp.set b (.box ks cs')).getD c .dead ≠ .dead → hp.getD c .dead ≠ .dead := by
    intro c h
    rw [getD_set] at h
    split at h
    · rename_i e; rw [← e.1, hb]; simp
    · exact h
  refine ⟨H.one, fun c h => H.out c (by simpa using h), fun c => ?_, fun c d v u g hne h1 h2 => H.dis c d v u g hne (hl c h1) (hl d h2), fun c u g h1 => H.wr c u g (hl c h1), H.lt⟩
  rw [getD_set]
  split
  · rename_i e; rw [← e.1]; exact hB
  · exact H.blk c

theorem upBs_sound : ∀ {bs : List Nat} {hp : List B} {ρ : Rho}, HSim C.P w fz ρ Wr hp → ∃ ρ', HSim C.P w fz ρ' Wr (upBs C.P hp bs) ∧ ∀ b v, ρ b = some v → ρ' b = some v
  | [], hp, ρ, H => ⟨ρ, H, fun _ _ h => h⟩
  | b :: bs, hp, ρ, H => by
    simp only [upBs]
    split
    · rename_i ks cs hb
      have hB := H.blk b
      rw [hb] at hB
      obtain ⟨g, us, t, k1, k2, k3, k4, k5⟩ := hB
      obtain ⟨ρ1, U, r1⟩ := upLs_sound H k3
      have hlt : b < hp.length := _root_.Go.Ab.live_lt (by rw [hb]; simp)
      have H1 := U.sim.retell (b := b) (ks := ks) (cs := cs) (cs' := (upLs C.P hp cs).1) ((U.old b hlt).trans hb) ⟨g, us, t, U.le _ _ k1, k2, r1, tyB_up k4, k5⟩
      obtain ⟨ρ2, H2, l2⟩ := upBs_sound (bs := bs) H1
      exact ⟨ρ2, H2, fun b v h => l2 b v (U.le b v h)⟩
    · exact upBs_sound H

theorem HSim.wrMono {hp : List B} {Wr' : Nat → Prop} (H : HSim C.P w fz ρ Wr hp) (h : ∀ g, Wr g → Wr' g) : HSim C.P w fz ρ Wr' hp := ⟨H.one, H.out, H.blk, H.dis, fun b v g h1 h2 h3 => h g (H.wr b v g h1 h2 h3), H.lt⟩

theorem canonSt_sound {n : Nat} {live : List Nat} {st' : St} (S : Sim C.P w fz ρ Wr a st) (h : canonSt C n live st = some st') : ∃ ρ', Sim C.P w fz ρ' Wr a st' ∧ ∀ b v, b < n → ρ b = some v → ρ' b = some v := by
  unfold canonSt at h
  obtain ⟨ρ1, U1, r1⟩ := upDs_sound S.hp (liveTm_sound (live := live) 0 S.tm)
  dsimp only at h
  generalize upDs C.P st.hp (liveTm live 0 st.tm) = up at h U1 r1
  obtain ⟨ds, hp1⟩ := up
  dsimp only at h U1 r1
  obtain ⟨ρ2, H2, l2⟩ := upBs_sound (bs := reachN hp1 100 (List.range n ++ refsDs ds) []) U1.sim
  generalize upBs C.P hp1 (reachN hp1 100 (List.range n ++ refsDs ds) []) = hp2 at h H2
  split at h
  case isFalse => cases h
  rename_i hck
  simp only [Option.some.injEq] at h
  subst h
  simp only [Bool.and_eq_true, List.all_eq_true, List.contains_iff_mem] at hck
  obtain ⟨hnb, hck1, hck2⟩ := hck
  generalize hids : List.range n ++ (reachN hp2 100 (List.range n ++ refsDs ds) []).filter (fun i => decide (n ≤ i)) = ids at *
  have hn := nodupB_spec hnb
  have hcl : ∀ i ∈ ids, ∀ b ∈ refsB (hp2.getD i .dead), b ∈ ids := fun i hi b hb => hck2 _ (List.mem_map.2 ⟨i, hi, rfl⟩) b hb
  have HC := H2.taken (C := C) hn hcl
  refine ⟨rhoC ids ρ2, ⟨repDs_ren (repDs_le r1 l2) hck1, HC.wrMono ?_⟩, fun b v hb hv => ?_⟩
  · rintro g ⟨i, hi, u, hd, hu, hg⟩
    exact H2.wr i u g hd hu hg
  · have : ids[b]? = some b := by
      rw [← hids, List.getElem?_append_left (by simpa using hb)]
      simp [hb]
    simp only [rhoC, this, Option.bind_some]
    exact l2 b v (U1.le b v hv)
end
end Go.Ab
namespace Go.Ab
section
variable {C : Cfg} {w w' : World} {fz fz' : Fz} {ρ ρ' ρ0 : Rho} {a : Act} {st : St}

/-- The frame comes to its end, with this result and this world. -/
def Goes (P : Program) (b : Frame) (a : Act) (todo : List Item) (w : World) (R : Value → World → Prop) : Prop :=
  ∀ cs, ∃ v w' fr, R v w' ∧ Steps P (lone (b.at a todo) cs w) (lone fr cs w') ∧ fr.fn = b.fn ∧ fr.leaving P w' (.returned v)
theorem Goes.steps {P : Program} {b : Frame} {a a' : Act} {t t' : List Item} {w w' : World} {R : Value → World → Prop} (h : ∀ cs, Steps P (lone (b.at a t) cs w) (lone (b.at a' t') cs w')) (k : Goes P b a' t' w' R) : Goes P b a t w R :=
  fun cs => let ⟨v, w2, fr, r, s, rest⟩ := k cs; ⟨v, w2, fr, r, (h cs).trans s, rest⟩
theorem Goes.step {P : Program} {b : Frame} {a a' : Act} {t t' : List Item} {w w' : World} {R : Value → World → Prop} (h : ∀ cs, step P (lone (b.at a t) cs w) = .next (lone (b.at a' t') cs w')) (k : Goes P b a' t' w' R) : Goes P b a t w R :=
  .steps (fun cs => .one (h cs)) k

def Wr0 (w0 : World) (S : Nat → Prop) : Nat → Prop := fun k => S k ∨ w0.heap.size ≤ k
/-- Within a function: what is told of the state, of the way since its beginning. -/
def Here (C : Cfg) (w0 : World) (fz0 : Fz) (ρ0 : Rho) (S : Nat → Prop) (sk : Skel) (st : St) (a : Act) (w : World) : Prop :=
  ∃ fz ρ, Sim C.P w fz ρ (Wr0 w0 S) a st ∧ Mv (Wr0 w0 S) w0 fz0 w fz ∧ SkInv ρ0 ρ 0 sk ∧ (∀ i, sk.length ≤ i → ρ0 i = none) ∧ a.defers = []
def Ends (C : Cfg) (f : FuncId) (w0 : World) (fz0 : Fz) (ρ0 : Rho) (S : Nat → Prop) (sk : Skel) (r : List L) (v : Value) (w' : World) : Prop := ∃ fz', EndOk C f w0 fz0 ρ0 S sk r v w' fz'
/-- A request to go on from a named point is answered rightly. -/
def StateOk (C : Cfg) (f : FuncId) (sk : Skel) (todo : List Item) (st : St) (r : List L) : Prop :=
  ∀ (w0 : World) (fz0 : Fz) (ρ0 : Rho) (S : Nat → Prop) (a : Act) (w : World) (b : Frame), Here C w0 fz0 ρ0 S sk st a w → b.fn = f → b.kind = .normal → Goes C.P b a todo w (Ends C f w0 fz0 ρ0 S sk r)
def ReqOk (C : Cfg) (G : Req → R) : Prop := EnterOk C G ∧ ∀ f sk todo st r, G (.point f sk todo st) = some r → StateOk C f sk todo st r

theorem SkInv.grow {sk : Skel} {b : Nat} (h : SkInv ρ0 ρ b sk) (hl : RhoLe ρ ρ') : SkInv ρ0 ρ' b sk := fun j ks old hj => by
  obtain ⟨⟨g, h1, h2⟩, h3⟩ := h j ks old hj
  exact ⟨⟨g, h1, hl _ _ h2⟩, fun l hl' he i hi => by
    obtain ⟨p, k1, k2⟩ := h3 l hl' he i hi
    exact ⟨p, k1, hl _ _ k2⟩⟩

theorem fin_sound {f : FuncId} {sk : Skel} {r : List L} {S : Nat → Prop} {w0 : World} {fz0 : Fz} (h : fin C f sk st = some r) (H : Here C w0 fz0 ρ0 S sk st a w) :
    ∃ fn v, C.P.funcs[f]? = some fn ∧ (results fn a.tmps).run C.P w = .ok v w ∧ Ends C f w0 fz0 ρ0 S sk r v w := by
  obtain ⟨fz, ρ, Sm, M, K, hout, hdf⟩ := H
  unfold fin at h
  split at h
  · cases h
  rename_i fn hfn
  split at h
  · cases h
  rename_i ls hls
  split at h
  · cases h
  rename_i o hp hfin
  split at h
  case h_2 => cases h
  rename_i o' hbox
  simp only [Option.some.injEq] at h
  subst h
  obtain ⟨vals, us, h1, h2, h3⟩ := results_sound Sm hls
  obtain ⟨fz1, gs, x1, F1, b1, n1, _⟩ := finD_sound Sm.hp h3 hfin
  obtain ⟨gs2, bg, hp2, F2, b2, n2, l2⟩ := finBoxes_sound F1.sim K hbox
  refine ⟨fn, retV vals, hfn, h1, fz1, M.trans (.of_fz x1), F2.sim.lt, fn, vals, us, gs, gs2, bg, hfn, rfl, h2, b1 o', ?_, ?_, ?_⟩
  · have : (o ++ o').drop (fn.resultTypes.toList.flatMap (kinds C.P)).length = o' := by rw [← n1]; simp
    rw [this]; exact b2
  · refine List.nodup_append.2 ⟨n2, (F1.trans F2).nd, fun x hx y hy e => ?_⟩
    subst e
    obtain ⟨i, ks, cs, _, hb, hρ⟩ := l2 x hx
    have hb' := (F1.box i ks cs).1 hb
    obtain ⟨⟨r', t, xs, ex, u, q1, q2, q3⟩, _⟩ := (F1.trans F2).gone x hy
    have hne : r' ≠ i := by intro e; subst e; rw [hb'] at q1; cases q1
    exact Sm.hp.dis r' i _ _ x hne (by rw [q1]; simp) (by rw [hb']; simp) q2 hρ q3 rfl
  · intro g hg
    obtain ⟨⟨r', t, xs, ex, u, q1, q2, q3⟩, _⟩ := (F1.trans F2).gone g hg
    exact Sm.hp.wr r' u g (by rw [q1]; simp) q2 q3

theorem fin_goes {f : FuncId} {sk : Skel} {r : List L} {S : Nat → Prop} {w0 : World} {fz0 : Fz} {b : Frame} {todo : List Item} (h : fin C f sk st = some r) (H : Here C w0 fz0 ρ0 S sk st a w) (hb : b.fn = f) (hk : b.kind = .normal)
    (hs : ∀ cs, step C.P (lone (b.at a todo) cs w) = .next (lone { b.at a todo with mode := .returning } cs w)) : Goes C.P b a todo w (Ends C f w0 fz0 ρ0 S sk r) := by
  intro cs
  obtain ⟨fn, v, h1, h2, h3⟩ := fin_sound h H
  have hd : a.defers = [] := by obtain ⟨_, _, _, _, _, _, e⟩ := H; exact e
  exact ⟨v, w, _, h3, .one (hs cs), rfl, rfl, hd, hk, fn, by rw [← hb] at h1; exact h1, h2⟩

/-- What stands ready: the answers, the contracts, the program. -/
structure Base (C : Cfg) (G : Req → R) : Prop where
  req : ReqOk C G
  ext : ExtOk C
  nc : NoCount C.P
  mix : C.P.follows .mixedOrders = true

theorem region_goes {G : Req → R} (B : Base C G) {f : FuncId} {sk : Skel} {r : List L} {S : Nat → Prop} {w0 : World} {fz0 : Fz} {b : Frame} {id : Nat} {ops : Array Oper} {draw : Bool} {k : List Item} {κ : St → R}
    (h : regionA C G ops draw st κ = some r) (H : Here C w0 fz0 ρ0 S sk st a w)
    (hκ : ∀ st' a' w', κ st' = some r → Here C w0 fz0 ρ0 S sk st' a' w' → Goes C.P b a' k w' (Ends C f w0 fz0 ρ0 S sk r)) : Goes C.P b a (.code (.region id ops draw) :: k) w (Ends C f w0 fz0 ρ0 S sk r) := by
  obtain ⟨fz, ρ, Sm, M, K, hout, hdf⟩ := H
  intro cs
  have hw : ∀ k, w.heap.size ≤ k → Wr0 w0 S k := fun k hk => .inr (Nat.le_trans M.size hk)
  have hwp := regionA_sound B.req.1 B.ext B.nc B.mix (Q := fun e a' w' => e = .normal ∧ Good C w fz ρ (Wr0 w0 S) a.defers κ r a' w') (fun c a w hq => by cases hq.1) Sm hw h (id := id) (fun a' w' hg => ⟨rfl, hg⟩)
  obtain ⟨e, a', w', ⟨rfl, st', fz', ρ', k1, k2, k3, k4, k5⟩, harr⟩ := hwp b k cs
  obtain ⟨v, w2, fr, r1, r2, r3⟩ := hκ st' a' w' k1 ⟨fz', ρ', k2, M.trans k3, K.grow k4, hout, by rw [k5]; exact hdf⟩ cs
  exact ⟨v, w2, fr, r1, Steps.trans harr r2, r3⟩

theorem stepA_sound {G : Req → R} (B : Base C G) {f : FuncId} {sk : Skel} : ∀ (m : Nat) {todo : List Item} {st : St} {r : List L}, stepA C G f sk m todo st = some r → StateOk C f sk todo st r
  | 0, _, _, _, h => by simp [stepA] at h
  | m + 1, todo, st, r, h => by
    intro w0 fz0 ρ0 S a w b H hb hk
    unfold stepA at h
    split at h
    · exact fin_goes h H hb hk fun cs => step_end
    · rename_i c k
      split at h
      · exact fin_goes h H hb hk fun cs => step_ret
      · exact .step (fun cs => step_skip) (stepA_sound B m h w0 fz0 ρ0 S a w b H hb hk)
      · exact .step (fun cs => step_label) (stepA_sound B m h w0 fz0 ρ0 S a w b H hb hk)
      · exact .step (fun cs => step_seq) (stepA_sound B m h w0 fz0 ρ0 S a w b H hb hk)
      · rename_i x ca cb
        split at h
        case h_2 => cases h
        rename_i t ht
        obtain ⟨fz, ρ, Sm, rest⟩ := id H
        have hx := Sm.leaf x
        rw [ht] at hx
        have he := rep_bool hx
        cases t with
        | true => exact .step (fun cs => step_cond (t := true) he) (stepA_sound B m h w0 fz0 ρ0 S a w b H hb hk)
        | false => exact .step (fun cs => step_cond (t := false) he) (stepA_sound B m h w0 fz0 ρ0 S a w b H hb hk)
      · exact .step (fun cs => step_block) (stepA_sound B m h w0 fz0 ρ0 S a w b H hb hk)
      · exact .step (fun cs => step_loop) (stepA_sound B m h w0 fz0 ρ0 S a w b H hb hk)
      · exact .step (fun cs => step_scope) (stepA_sound B m h w0 fz0 ρ0 S a w b H hb hk)
      · split at h
        case h_2 => cases h
        rename_i k' hk'
        exact .step (fun cs => step_exit hk') (stepA_sound B m h w0 fz0 ρ0 S a w b H hb hk)
      · split at h
        case h_2 => cases h
        rename_i k' hk'
        exact .step (fun cs => step_goto hk') (stepA_sound B m h w0 fz0 ρ0 S a w b H hb hk)
      · rename_i id ops draw
        split at h
        · split at h
          case h_2 => cases h
          rename_i st' hc
          refine B.req.2 _ _ _ _ _ h w0 fz0 ρ0 S a w b ?_ hb hk
          obtain ⟨fz, ρ, Sm, M, K, hout, hdf⟩ := H
          obtain ⟨ρ', Sm', hρ⟩ := canonSt_sound Sm hc
          refine ⟨fz, ρ', Sm', M, fun j ks old hj => ?_, hout, hdf⟩
          obtain ⟨⟨g, h1, h2⟩, h3⟩ := K j ks old hj
          have hlt : ∀ i v, ρ0 i = some v → i < sk.length := fun i v hv => Nat.lt_of_not_le fun hle => by rw [hout i hle] at hv; cases hv
          refine ⟨⟨g, h1, hρ _ _ (hlt _ _ h1) h2⟩, fun l hl he i hi => ?_⟩
          obtain ⟨p, k1, k2⟩ := h3 l hl he i hi
          exact ⟨p, k1, hρ _ _ (hlt _ _ k1) k2⟩
        · exact region_goes B h H fun st' a' w' hs H' => stepA_sound B m ((fSt_eq C st' _).symm.trans hs) w0 fz0 ρ0 S a' w' b H' hb hk
      · cases h
    · exact .step (fun cs => step_inBlock) (stepA_sound B m h w0 fz0 ρ0 S a w b H hb hk)
    · exact .step (fun cs => step_inScope) (stepA_sound B m h w0 fz0 ρ0 S a w b H hb hk)
    · exact .step (fun cs => step_inLoop) (stepA_sound B m h w0 fz0 ρ0 S a w b H hb hk)
    · cases h

theorem skInv_start {hp : List B} {S : Nat → Prop} (H : HSim C.P w fz ρ S hp) : SkInv ρ ρ 0 (hp.map skelB) := fun j ks old hj => by
  simp only [List.getElem?_map, Option.map_eq_some_iff] at hj
  obtain ⟨B, hB, hs⟩ := hj
  cases B with
  | box ks' cs =>
    simp only [skelB, Option.some.injEq, Prod.mk.injEq] at hs
    obtain ⟨rfl, rfl⟩ := hs
    have hb := H.blk j
    have : hp.getD j .dead = .box ks' cs := by simp [List.getD, hB]
    rw [this] at hb
    obtain ⟨g, us, t, k1, k2, k3, k4, k5⟩ := hb
    simp only [Nat.zero_add]
    refine ⟨⟨g, k1, k1⟩, fun l hl he i hi => ?_⟩
    have key : ∀ (ks : List K) (cs : List L), l ∈ skelLs ks cs → l = .any ∨ l ∈ cs := by
      intro ks
      induction ks with
      | nil => intro cs h; simp [skelLs] at h
      | cons k ks ih =>
        intro cs h
        have tail : l ∈ skelLs ks cs.tail → l = .any ∨ l ∈ cs := fun h => (ih _ h).imp (fun e => e) List.mem_of_mem_tail
        cases k <;> simp only [skelLs, List.mem_cons] at h <;> rcases h with h | h <;> first
          | exact tail h
          | exact .inl h
          | (cases cs with
             | nil => exact .inl h
             | cons x xs => exact .inr (by simp at h; simp [h]))
    rcases key ks' cs hl with rfl | hm
    · simp [othEq] at he
    · obtain ⟨q, hq⟩ := List.mem_iff_getElem?.1 hm
      obtain ⟨u, _, hu⟩ := k3.get q l hq
      obtain ⟨p, hp⟩ := oth_refs he hu i hi
      exact ⟨p, hp, hp⟩
  | _ => simp [skelB] at hs

theorem runB_sound {G : Req → R} (B : Base C G) : ReqOk C (runB C G) := by
  refine ⟨fun f args hp r h w fz ρ S vs H hargs => ?_, fun f sk todo st r h => ?_⟩
  · simp only [runB] at h
    split at h
    case h_2 => cases h
    rename_i fn hfn
    split at h
    case h_2 => cases h
    rename_i c hc
    let b : Frame := { (default : Frame) with fn := f, kind := .normal }
    have henter : Frame.enter C.P f vs .normal = b.at { tmps := vs ++ Array.replicate (fn.ntmps - vs.size) undef, defers := [] } [.code c] := by
      simp [Frame.enter, Frame.at, hfn, hc, b]
    have hlen : vs.size = args.length := by have := hargs.length; simpa using this
    have Sm : Sim C.P w fz ρ (Wr0 w S) { tmps := vs ++ Array.replicate (fn.ntmps - vs.size) undef, defers := [] } { tm := args ++ List.replicate (fn.ntmps - args.length) .undef, hp } := by
      refine ⟨?_, H.wrMono fun g hg => .inl hg⟩
      simp only [Array.toList_append, Array.toList_replicate, hlen]
      refine RepDs.append _ hargs (RepDs.of _ (by simp) fun i v d h1 h2 => ?_)
      have e1 : v = undef := by
        rw [List.getElem?_replicate] at h1
        split at h1
        · simpa using h1.symm
        · cases h1
      have e2 : d = D.undef := by
        rw [List.getElem?_replicate] at h2
        split at h2
        · simpa using h2.symm
        · cases h2
      subst e1 e2
      exact rep_undef
    have hs := stepA_sound B 4000 h w fz ρ S _ w b ⟨fz, ρ, Sm, .refl _ _ _, skInv_start H, fun i hi => H.out i (by simpa using hi), rfl⟩ rfl rfl
    intro cs
    obtain ⟨v, w', fr, ⟨fz', hE⟩, s, hfr, hl⟩ := hs cs
    exact ⟨.returned v, w', fr, ⟨v, fz', rfl, hE⟩, by rw [henter]; exact s, hfr, hl⟩
  · intro w0 fz0 ρ0 S a w b H hb hk
    simp only [runB] at h
    split at h
    case h_2 => cases h
    rename_i id ops draw rest
    exact region_goes B h H fun st' a' w' hs H' => stepA_sound B 4000 ((fSt_eq C st' _).symm.trans hs) w0 fz0 ρ0 S a' w' b H' hb hk

/-- **The interpreter says what the machine does.** -/
theorem run_sound (hE : ExtOk C) (hN : NoCount C.P) (hm : C.P.follows .mixedOrders = true) : ∀ k, ReqOk C (run C k)
  | 0 => ⟨fun f args hp r h => by simp [run] at h, fun f sk todo st r h => by simp [run] at h⟩
  | k + 1 => runB_sound ⟨run_sound hE hN hm k, hE, hN, hm⟩
end
end Go.Ab
namespace Go.Ab
section
variable {C C1 : Cfg} {w w' : World} {fz fz' : Fz} {ρ ρ' ρ0 : Rho}

abbrev Con := List D → List B → Option (Bool × List L)
/-- A function's contract. -/
def ExtFor (C : Cfg) (f : FuncId) (S : Con) : Prop := ∀ as hp r, S as hp = some (true, r) → ∀ (w : World) (fz : Fz) (ρ : Rho) (S : Nat → Prop) (vs : Array Value),
  HSim C.P w fz ρ S hp → RepDs (Rep C.P w fz ρ) vs.toList as →
  Calls C.P f vs w fun e w' => ∃ v fz', e = .returned v ∧ EndOk C f w fz ρ S (hp.map skelB) r v w' fz'
theorem extOk_of (h : ∀ f S, C.ext f = some S → ExtFor C f S) : ExtOk C := fun f S as hp r hf hs => h f S hf as hp r hs

theorem EndOk.to {f : FuncId} {S : Nat → Prop} {sk : Skel} {r : List L} {v : Value} (h : EndOk C1 f w fz ρ0 S sk r v w' fz') (hP : C.P = C1.P) (ho : C.own f = C1.own f) : EndOk C f w fz ρ0 S sk r v w' fz' :=
  ⟨h.mv, h.lt, by rw [hP, ho]; exact h.back⟩
theorem ExtFor.to {f : FuncId} {S : Con} (h : ExtFor C1 f S) (hP : C.P = C1.P) (ho : C.own f = C1.own f) : ExtFor C f S := by
  intro as hp r hs w fz ρ S0 vs hlt ha
  rw [hP] at ha hlt ⊢
  refine (h as hp r hs w fz ρ S0 vs hlt ha).mono ?_
  rintro e w' ⟨v, fz', rfl, E⟩
  exact ⟨v, fz', rfl, E.to hP ho⟩

theorem hsim_nil (S : Nat → Prop) (hlt : ∀ g o, fz g o → g < w.heap.size) : HSim C.P w fz (fun _ => none) S [] :=
  ⟨by simp, by simp, fun b => by simp [BS], by simp, by simp, hlt⟩

/-- A contract out of the function's own text. -/
theorem extFor_run (hE : ExtOk C) (hN : NoCount C.P) (hm : C.P.follows .mixedOrders = true) {f : FuncId} {S : Con} (h : ∀ as hp r, S as hp = some (true, r) → ∃ k, run C k (.enter f as hp) = some r) : ExtFor C f S := by
  intro as hp r hs w fz ρ S0 vs hlt ha
  obtain ⟨k, hk⟩ := h as hp r hs
  exact (run_sound hE hN hm k).1 f as hp r hk w fz ρ S0 vs hlt ha

/-- A plain result. -/
theorem endOk_two {f : FuncId} {fn : Func} {t : TypeId} {k : K} {l : L} {v : Value} {S : Nat → Prop} (hmv : Mv (fun k => S k ∨ w.heap.size ≤ k) w fz w' fz) (hlt : ∀ g o, fz g o → g < w'.heap.size) (hf : C.P.funcs[f]? = some fn) (ht : fn.resultTypes = #[t]) (hk : kinds C.P t = [k]) (ha : isAggT C.P t = false)
    (hns : (∀ t, k ≠ .sl t) ∧ k ≠ .oth) (hl : HasK k l) (hv : Rep C.P w' fz ρ v l) : EndOk C f w fz ρ S [] [l] v w' fz := by
  refine ⟨hmv, hlt, fn, [v], [v], [], [], [], hf, rfl, ?_, ?_, ?_, by simp, by simp⟩
  · simp only [ht, Vals]
    exact ⟨[v], [], rfl, by simp [hk], by simp [hk], by simp [ha], rfl⟩
  · simp only [ht, List.flatMap_cons, List.flatMap_nil, hk, List.append_nil]
    have hv0 : ∀ l, (∃ n k, l = .int k n) ∨ (∃ b, l = .bool b) ∨ (∃ s, l = .str s) → Rep C.P w' fz ρ v l → Rep C.P w' fz (fun _ => none) v l := by
      rintro l (⟨n, k, rfl⟩ | ⟨b, rfl⟩ | ⟨s, rfl⟩) h
      · rw [rep_int h]; exact .int _ _
      · rw [rep_bool h]; exact .bool _
      · rw [rep_str h]; exact .str _
    cases k with
    | sl t => exact absurd rfl (hns.1 t)
    | oth => exact absurd rfl hns.2
    | int k => obtain ⟨n, rfl⟩ := hl; simp only [Bk, List.headD_cons]; exact ⟨⟨n, rfl⟩, hv0 _ (.inl ⟨_, _, rfl⟩) hv, trivial⟩
    | bool => obtain ⟨n, rfl⟩ := hl; simp only [Bk, List.headD_cons]; exact ⟨⟨n, rfl⟩, hv0 _ (.inr (.inl ⟨_, rfl⟩)) hv, trivial⟩
    | str => obtain ⟨n, rfl⟩ := hl; simp only [Bk, List.headD_cons]; exact ⟨⟨n, rfl⟩, hv0 _ (.inr (.inr ⟨_, rfl⟩)) hv, trivial⟩
  · simp [BxS]

/-- A plain result in a world that is as it was. -/
theorem endOk_plain {f : FuncId} {fn : Func} {t : TypeId} {k : K} {l : L} {v : Value} {S : Nat → Prop} (hlt : ∀ g o, fz g o → g < w.heap.size) (hf : C.P.funcs[f]? = some fn) (ht : fn.resultTypes = #[t]) (hk : kinds C.P t = [k]) (ha : isAggT C.P t = false)
    (hns : (∀ t, k ≠ .sl t) ∧ k ≠ .oth) (hl : HasK k l) (hv : Rep C.P w fz ρ v l) : EndOk C f w fz ρ S [] [l] v w fz :=
  endOk_two (.refl _ _ _) hlt hf ht hk ha hns hl hv

/-- A contract out of a contract that says: this result, the world as it was. -/
theorem extFor_plain {f : FuncId} {S : Con} {fn : Func} {t : TypeId} {k : K} (hf : C.P.funcs[f]? = some fn) (ht : fn.resultTypes = #[t]) (hk : kinds C.P t = [k]) (ha : isAggT C.P t = false) (hns : (∀ t, k ≠ .sl t) ∧ k ≠ .oth)
    (h : ∀ as hp r, S as hp = some (true, r) → ∃ l, hp = [] ∧ r = [l] ∧ HasK k l ∧ ∀ (w : World) (fz : Fz) (ρ : Rho) (vs : Array Value), RepDs (Rep C.P w fz ρ) vs.toList as → ∃ v, Rep C.P w fz ρ v l ∧ Calls C.P f vs w fun e w' => e = .returned v ∧ w' = w) : ExtFor C f S := by
  intro as hp r hs w fz ρ S0 vs hlt hargs
  obtain ⟨l, rfl, rfl, hkl, hc⟩ := h as hp r hs
  obtain ⟨v, hv, hcalls⟩ := hc w fz ρ vs hargs
  refine hcalls.mono ?_
  rintro e w' ⟨rfl, rfl⟩
  exact ⟨v, fz, rfl, endOk_plain hlt.lt hf ht hk ha hns hkl hv⟩

/-- A contract out of a contract that says: this result, the old blocks as they were. -/
theorem extFor_below {f : FuncId} {S : Con} {fn : Func} {t : TypeId} {k : K} (hf : C.P.funcs[f]? = some fn) (ht : fn.resultTypes = #[t]) (hk : kinds C.P t = [k]) (ha : isAggT C.P t = false) (hns : (∀ t, k ≠ .sl t) ∧ k ≠ .oth)
    (h : ∀ as hp r, S as hp = some (true, r) → ∃ l, hp = [] ∧ r = [l] ∧ HasK k l ∧ ∀ (w : World) (fz : Fz) (ρ : Rho) (vs : Array Value), RepDs (Rep C.P w fz ρ) vs.toList as → ∃ v, (∀ w', Rep C.P w' fz ρ v l) ∧ Calls C.P f vs w fun e w' => e = .returned v ∧ Go.RowKit.Below w.heap.size w w') : ExtFor C f S := by
  intro as hp r hs w fz ρ S0 vs hlt hargs
  obtain ⟨l, rfl, rfl, hkl, hc⟩ := h as hp r hs
  obtain ⟨v, hv, hcalls⟩ := hc w fz ρ vs hargs
  refine hcalls.mono ?_
  rintro e w' ⟨rfl, B⟩
  exact ⟨v, fz, rfl, endOk_two (.of_old B.os B.tape B.output B.size B.block hlt.lt) (fun g o hg => Nat.lt_of_lt_of_le (hlt.lt g o hg) B.size) hf ht hk ha hns hkl (hv w')⟩

/-- A whole call that answers one bool. -/
theorem calls_bool (hE : ExtOk C) (hN : NoCount C.P) (hm : C.P.follows .mixedOrders = true) {k : Nat} {f : FuncId} {fn : Func} {t : TypeId} {args : List D} {b : Bool} (h : run C k (.enter f args []) = some [.bool b])
    (hf : C.P.funcs[f]? = some fn) (ht : fn.resultTypes = #[t]) (hk : kinds C.P t = [.bool]) (hag : isAggT C.P t = false) (w : World) {vs : Array Value} (ha : RepDs (Rep C.P w (fun _ _ => False) fun _ => none) vs.toList args) :
    Calls C.P f vs w fun e w' => e = .returned (.bool b) ∧ Go.RowKit.Below w.heap.size w w' := by
  refine ((run_sound hE hN hm k).1 f args [] _ h w (fun _ _ => False) (fun _ => none) (fun _ => False) vs (hsim_nil _ (fun _ _ h => h.elim)) ha).mono ?_
  rintro e w' ⟨v, fz', rfl, E⟩
  obtain ⟨fn', vals, us, gs, gs2, bg, k1, k2, k3, k4, _⟩ := E.back
  rw [hf] at k1
  cases k1
  rw [ht] at k3 k4
  simp only [List.flatMap_cons, List.flatMap_nil, hk, List.append_nil] at k4
  match vals, k3 with
  | [x], ⟨u1, u2, e1, e2, e3, e4, e5⟩ =>
    simp only [Vals] at e5
    subst e5
    rw [List.append_nil] at e1
    subst e1
    match us, k4 with
    | [u], k4 =>
      simp only [Bk, List.headD_cons] at k4
      have := rep_bool k4.2.1
      subst this
      simp only [hag, Bool.false_eq_true, if_false, List.headD_cons] at e4
      subst e4
      refine ⟨by rw [k2]; rfl, E.mv.os, E.mv.tape, E.mv.output, E.mv.size, fun k hk => E.mv.block k hk ?_⟩
      rintro (h | h)
      · exact h
      · omega
end

theorem keptBut_of {w w' : World} {may : MemPlace → Prop} (h1 : w'.os = w.os) (h2 : w'.output = w.output) (h3 : ∀ k, k < w.heap.size → w'.heap[k]? = w.heap[k]?) : w.keptBut w' may := by
  refine ⟨h1, h2, fun i hi => ?_⟩
  rw [h3 i hi]
  have := (World.keptBut_refl w may).2.2 i hi
  exact this
end Go.Ab
namespace Go.Ab

/-- A request is answered at last. -/
def Runs (C : Cfg) (q : Req) (r : List L) : Prop := ∃ k, run C k q = some r
/-- The same of what a normal form asks. -/
def RunsF (C : Cfg) (F : (Req → R) → R) (r : List L) : Prop := ∃ k, F (run C k) = some r
theorem Runs.by {C : Cfg} {q : Req} {F : (Req → R) → R} {r : List L} (h : ∀ G, runB C G q = F G) (h' : RunsF C F r) : Runs C q r := by
  obtain ⟨k, hk⟩ := h'
  exact ⟨k + 1, (h _).trans hk⟩
theorem RunsF.ret {C : Cfg} {r : List L} : RunsF C (fun _ => some r) r := ⟨0, rfl⟩
theorem RunsF.ret' {C : Cfg} {r r' : List L} (h : r' = r) : RunsF C (fun _ => some r') r := ⟨0, by rw [h]⟩
theorem RunsF.go {C : Cfg} {q : Req} {r : List L} (h : Runs C q r) : RunsF C (fun G => G q) r := h
theorem RunsF.go' {C : Cfg} {q q' : Req} {r : List L} (e : q' = q) (h : Runs C q r) : RunsF C (fun G => G q') r := by rw [e]; exact h

/-- Contracts, by the function's number. -/
def look (xs : List (Nat × Con)) (f : FuncId) : Option Con := match xs with
  | [] => none
  | (g, c) :: rest => cond (Nat.beq f g) (some c) (look rest f)
theorem look_mem : ∀ {xs : List (Nat × Con)} {f : FuncId} {S : Con}, look xs f = some S → (f, S) ∈ xs
  | [], _, _, h => by simp [look] at h
  | (g, c) :: rest, f, S, h => by
    unfold look at h
    cases hb : Nat.beq f g with
    | true =>
      rw [hb] at h
      simp only [cond_true, Option.some.injEq] at h
      have := Nat.eq_of_beq_eq_true hb
      subst this; subst h
      exact List.mem_cons_self
    | false =>
      rw [hb] at h
      exact List.mem_cons_of_mem _ (look_mem h)
/-- Named points, by the function's number and the region's. -/
def lookN {α : Type} (xs : List (Nat × α)) (f : Nat) : Option α := match xs with
  | [] => none
  | (g, c) :: rest => cond (Nat.beq f g) (some c) (lookN rest f)
def lookP (xs : List (Nat × List (Nat × List Nat))) (f : FuncId) (id : Nat) : Option (List Nat) := match lookN xs f with
  | some l => lookN l id
  | none => none
def memN (xs : List Nat) (f : Nat) : Bool := match xs with
  | [] => false
  | g :: rest => cond (Nat.beq f g) true (memN rest f)

/-! ### reckoning -/
theorem ev_lt_t {a b : Int} (h : a < b) : ltI a b = true := by simpa using h
theorem ev_lt_f {a b : Int} (h : b ≤ a) : ltI a b = false := by simpa using h
theorem ev_le_t {a b : Int} (h : a ≤ b) : leI a b = true := by simpa using h
theorem ev_le_f {a b : Int} (h : b < a) : leI a b = false := by simpa using h
theorem ev_eq_t {a b : Int} (h : a = b) : (a == b) = true := by simpa using h
theorem ev_eq_f {a b : Int} (h : a ≠ b) : (a == b) = false := by simpa using h
theorem ev_ne_t {a b : Int} (h : a ≠ b) : (a != b) = true := by simpa using h
theorem ev_ne_f {a b : Int} (h : a = b) : (a != b) = false := by simpa using h
theorem ev_blt {a b : Nat} (h : a ≤ b) : Nat.ble a b = true := Nat.ble_eq_true_of_le h
theorem w64 {n : Int} (h1 : -9223372036854775808 ≤ n) (h2 : n ≤ 9223372036854775807) : wrapI .i64 n = n := by
  rw [wrapI_eq]
  simp only [IntKind.wrap, IntKind.bits, IntKind.signed]
  simp
  split <;> omega
theorem w8 {n : Int} (h1 : 0 ≤ n) (h2 : n ≤ 255) : wrapI .u8 n = n := by
  rw [wrapI_eq]
  simp only [IntKind.wrap, IntKind.bits, IntKind.signed]
  simp
  omega
theorem w32 {n : Int} (h1 : -2147483648 ≤ n) (h2 : n ≤ 2147483647) : wrapI .i32 n = n := by
  rw [wrapI_eq]
  simp only [IntKind.wrap, IntKind.bits, IntKind.signed]
  simp
  split <;> omega
theorem wu64 {n : Int} (h1 : 0 ≤ n) (h2 : n ≤ 18446744073709551615) : wrapI .u64 n = n := by
  rw [wrapI_eq]
  simp only [IntKind.wrap, IntKind.bits, IntKind.signed]
  simp
  omega
theorem wu32 {n : Int} (h1 : 0 ≤ n) (h2 : n ≤ 4294967295) : wrapI .u32 n = n := by
  rw [wrapI_eq]
  simp only [IntKind.wrap, IntKind.bits, IntKind.signed]
  simp
  omega
theorem imax : IntKind.i64.max = 9223372036854775807 := by decide
theorem xo {g : Bool} {r0 r : List L} (h : some (g, r0) = some (true, r)) : g = true ∧ r0 = r := by
  simpa using h
theorem dec_of {p : Prop} [Decidable p] (h : decide p = true) : p := of_decide_eq_true h

/-! ### words of the printed forms -/
/-- A byte of a text. -/
def byI (s : ByteArray) (i : Int) : Int := ((s.data.getD i.toNat 0).toNat : Int)
/-- An element's cells. -/
def atL (xs : List (List L)) (i : Int) : List L := xs.getD i.toNat []
def cellN : Nat → List L → L
  | 0, e => e.headD .any
  | k + 1, e => cellN k e.tail
def cI (k : Nat) (e : List L) : Int := (cellN k e).toInt
def cO (k : Nat) (e : List L) : Bool := (cellN k e).toBool
def cT (k : Nat) (e : List L) : ByteArray := (cellN k e).toStr
def cX (k : Nat) (e : List L) : List (List L) := (cellN k e).toLst
/-- An array of bools, by a function; an element of it. -/
def arrB (f : Nat → Bool) (n : Nat) : List L := (List.range n).map fun j => .bool (f j)
def arrGet (f : Nat → Bool) (n i : Nat) : L := (arrB f n).getD i .any
theorem arrGet_eq {f : Nat → Bool} {n i : Nat} (h : i < n) : arrGet f n i = .bool (f i) := by
  unfold arrGet arrB
  simp [List.getD, h]
theorem arrB_congr {f g : Nat → Bool} {n : Nat} (h : ∀ i, i < n → f i = g i) : arrB f n = arrB g n := by
  unfold arrB
  refine List.map_congr_left fun i hi => ?_
  rw [h i (by simpa using hi)]
/-- Room for so many elements of so many bytes. -/
def roomN (n b : Nat) : Bool := decide (n * b ≤ 140737488355328) && decide (n ≤ maxLen)
theorem roomN_t {n b : Nat} (h1 : n * b ≤ 140737488355328) (h2 : n ≤ 281474976710656) : roomN n b = true := by
  unfold roomN maxLen
  simp; omega
/-- So many orders, all with one answer. -/
noncomputable def dupN : Nat → R → R
  | 0, a => a
  | n + 1, a => both a (dupN n a)
theorem dupN_eq : ∀ (n : Nat) (a : R), dupN n a = a
  | 0, _ => rfl
  | n + 1, a => by rw [dupN, dupN_eq n a, both_self]
theorem RunsF.dup {C : Cfg} {F : (Req → R) → R} {r : List L} {n : Nat} (h : RunsF C F r) : RunsF C (fun G => dupN n (F G)) r := by
  simpa only [dupN_eq] using h
/-- Nothing is known. -/
abbrev an : D := .lf .any
/-! ### strings as lists of bytes -/
abbrev bl (s : ByteArray) : List UInt8 := s.data.toList
abbrev mk (l : List UInt8) : ByteArray := ⟨⟨l⟩⟩
theorem mk_bl (s : ByteArray) : mk (bl s) = s := rfl
theorem bl_mk (l : List UInt8) : bl (mk l) = l := rfl
theorem str_cases (s : ByteArray) : ∃ l, s = mk l := ⟨bl s, rfl⟩
theorem toL (s : ByteArray) : s.toList = bl s := ByteArray.toList_eq s
theorem toL_mk (l : List UInt8) : (mk l).toList = l := toL _
theorem size_mk (l : List UInt8) : (mk l).size = l.length := rfl
theorem bl_size (s : ByteArray) : (bl s).length = s.size := Array.length_toList
theorem bl_inj {s t : ByteArray} (h : bl s = bl t) : s = t := by
  obtain ⟨⟨a⟩⟩ := s
  obtain ⟨⟨b⟩⟩ := t
  simp only [bl] at h
  rw [h]
theorem bl_ext (s : ByteArray) (i j : Nat) : bl (s.extract i j) = ((bl s).take j).drop i := by
  simp only [bl, ByteArray.data_extract, Array.toList_extract, List.extract_eq_take_drop]
  rw [List.drop_take]
theorem bl_append (s t : ByteArray) : bl (s ++ t) = bl s ++ bl t := by simp [bl, ByteArray.data_append]
theorem ext_mk (l : List UInt8) (i j : Nat) : (mk l).extract i j = mk ((l.take j).drop i) := bl_inj (bl_ext _ _ _)
theorem app_mk (l m : List UInt8) : mk l ++ mk m = mk (l ++ m) := bl_inj (bl_append _ _)
theorem get_mk (l : List UInt8) (i : Nat) : Array.getD (⟨l⟩ : Array UInt8) i 0 = l.getD i 0 := by
  rw [Array.getD_eq_getD_getElem?, List.getD_eq_getElem?_getD]
  simp
theorem byI_mk (l : List UInt8) (i : Nat) : byI (mk l) (i : Int) = ((l.getD i 0).toNat : Int) := by
  unfold byI
  rw [Int.toNat_natCast]
  show ((Array.getD (⟨l⟩ : Array UInt8) i 0).toNat : Int) = _
  rw [get_mk]
theorem atL_map {α : Type} (f : α → List L) (xs : List α) (i : Nat) (d : α) (h : i < xs.length) : atL (xs.map f) (i : Int) = f (xs.getD i d) := by
  unfold atL
  simp [List.getD, h]
theorem mk_inj {l m : List UInt8} : mk l = mk m ↔ l = m := by simp
/-- A byte as a number. -/
theorem u8_lo (b : UInt8) : (0 : Int) ≤ (b.toNat : Int) := Int.natCast_nonneg _
theorem u8_hi (b : UInt8) : (b.toNat : Int) ≤ 255 := by have := b.toNat_lt; omega
theorem getD_drop {l : List UInt8} {i : Nat} (h : i < l.length) : ∃ b, l.drop i = b :: l.drop (i + 1) ∧ l.getD i 0 = b ∧ l[i]? = some b := by
  refine ⟨l[i], List.drop_eq_getElem_cons h, by simp [List.getD, h], by simp [h]⟩
end Go.Ab
